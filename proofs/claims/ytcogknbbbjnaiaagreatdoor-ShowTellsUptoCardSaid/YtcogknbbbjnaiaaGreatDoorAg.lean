/- For ShowTells: what the texts XShB of wip/tpl say. -/
import Derived.Test.YtcogknbbbjnaiaaGreatDoorT
import Derived.Test.YtcogknbbbjnaiaaGreatDoorAf
set_option maxHeartbeats 2000000
namespace Go.Proofs.YtcogknbbbjnaiaaGreatDoor
open Go.RowKit
namespace SH
theorem Fe{s:List Int}{k:Nat}(h:k<s.length)(a:s[k]≠92):dn (s.drop (k+1))=dn (s.drop k):=by
 rw[ed h];generalize s.drop (k+1)=r;cases r with
 |nil=>rfl
 |cons d r=>rw[dn,ae a]
theorem Hu{s:List Int}{k:Nat}(h:k+1<s.length)(a:s[k]=92):dn (s.drop k)=(decide (s[k+1]≠47)&&dn (s.drop (k+2))):=by rw[ed (show k<s.length by omega),ed h,dn,av a]
theorem oC{s:List Int}{k:Nat}(h:s.length<=k+1):dn (s.drop k)=true:=by
 rcases fC k s.length with a|a
 .rw[ed a,jg h];rfl
 .rw[jg a];rfl
end SH
theorem Ji(s:List Int)(v:Value)(w:World)(G:ib w v s)(T:s.length<=1000000000):Calls Tryz.prog 63 #[v] w (qL (.bool (SH.lU s)) w):=by
 obtain⟨A,U,rfl,V,X,-⟩:=id G;have N:=jd G;have Y:=jd (fun H(h:Ext w H)=>UM s false _ H (G.ext h));clear G;obtain⟨R,J⟩:∃R,SH.lU s=R:=⟨_,rfl⟩;have O:=jd J;rw[J];clear J;go_enter Tryz.func63,Tryz.ntmps63;go_upto_region 2 with fail;go_loopw[3](fun i wr=>∃k:Nat,k<=s.length+1/\i=.int .i64 (k:Int)/\wr=w/\SH.dn (s.drop k)=SH.dn s)(fun i _=>s.length+1-(intOf i).toNat);case atStart=>exact⟨0,aL _,rfl,rfl,rfl⟩
 case round=>
  obtain⟨k,hk,rfl,rfl,P⟩:=hrel;have D:=jd P;clear P;by_cases E:k<s.length
  .obtain⟨b,o,rfl,a⟩:=N.o.at_ E;by_cases C:s[k]=92
   .by_cases u:k+1<s.length
    .obtain⟨b',o',K,r⟩:=N.o.at_ u;injection K with K;injection K with I Q _;subst I Q;rw[C]at a;have z:=jd (SH.Hu u C);obtain⟨d,S⟩:∃d,s[k+1]=d:=⟨_,rfl⟩;rw[S]at r z;clear S C;by_cases B:d=47
     .have Z:=jd (show SH.dn s=false by rw[<-D.o,z.o];simp[B]);subst B;go_wp2_with fail;go_ret;refine⟨aH ?_,aa _⟩;rw[<-O.o,SH.lU,Z.o];rfl
     .have f:=jd (show SH.dn (s.drop (k+2))=SH.dn s by rw[<-D.o,z.o];simp[B]);go_wp2_with fail;go_roundw;case rel=>exact⟨k+2,by omega,by go_num,trivial,f.o⟩
      case measure=>simp[intOf];omega
    .have f:=jd (show SH.dn (s.drop (k+2))=SH.dn s by rw[<-D.o,SH.oC (by omega),SH.oC (by omega)]);rw[C]at a;clear C;go_wp2_with fail;go_roundw;case rel=>exact⟨k+2,by omega,by go_num,trivial,f.o⟩
     case measure=>simp[intOf];omega
   .have f:=jd (show SH.dn (s.drop (k+1))=SH.dn s by rw[<-D.o,SH.Fe E C]);go_wp2_with fail;go_roundw;case rel=>exact⟨k+1,by omega,by go_num,trivial,f.o⟩
    case measure=>simp[intOf];omega
  .have HT:=jd (show SH.dn s=true by rw[<-D.o];exact SH.oC (by omega));go_upto_region 8 with fail;obtain⟨F,j⟩:∃F,(PG.compile s).2.1=F:=⟨_,rfl⟩;have L:=jd (show R=decide (F=0)by rw[<-O.o,SH.lU,HT.o,j];rfl);have rA:=jd (show Calls Tryz.prog 86 #[.slice A s.length U,.bool false] wr (fun e H=>Ext wr H/\∃p b,e=.returned (.tuple #[.pointer p,.agg #[.int .i64 F,.int .i64 b]]))from(Y.o _ (aa _)).mono (by
    rintro e w2⟨m,⟨I,rfl⟩|⟨l,t,k,mb,vp,I,Q,h3,h4,h5,rfl,h6⟩⟩
    .exact⟨m,_,_,by rw[j]⟩
    .rw[I]at j;exact⟨m,_,_,by rw[<-j]⟩));clear j;go_wp2_with(go_at_call 86;refine(rA.o).mono ?_;rintro e w2⟨m,p,b,rfl⟩;have M:=jd m;clear m);go_ret;refine⟨aH ?_,M.o.alloc _⟩;rw[L.o];by_cases h0:F=0<;>simp[h0]
end Go.Proofs.YtcogknbbbjnaiaaGreatDoor
