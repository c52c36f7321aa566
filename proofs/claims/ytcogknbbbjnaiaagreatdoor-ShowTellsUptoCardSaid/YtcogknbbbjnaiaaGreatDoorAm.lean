/- For ShowTells: what the texts XShC XShRo XShRa XShRb of wip/tpl say. -/
import Derived.Test.YtcogknbbbjnaiaaGreatDoorAh
import Derived.Test.YtcogknbbbjnaiaaGreatDoorAl
set_option maxRecDepth 100000
set_option maxHeartbeats 4000000
namespace Go.Proofs.YtcogknbbbjnaiaaGreatDoor
open Go.RowKit
def CG(s:List Int)(i:Int):Int:=if i<0 then-1 else(s[i.toNat]?).getD (-1)
theorem uV(s:List Int)(v:Value)(i:Int)(w:World)(a:ib w v s):Calls Tryz.prog 10 #[v,.int .i64 i] w (lW (.int .i32 (CG s i)) w):=by
 obtain⟨A,p,rfl,j,m,-⟩:=id a;by_cases d:i<0;focus
  have e:=jd (show CG s i=-1 by unfold CG;rw[av d])
 rotate_left;focus
  obtain⟨k,rfl⟩:∃k:Nat,i=k:=⟨i.toNat,by omega⟩;by_cases h:k<s.length;focus
   have e:=jd (show CG s k=s[k]by unfold CG;rw[ae d,ko,aU h];rfl);obtain⟨b,o,rfl,f⟩:=a.at_ h;clear a
  rotate_left;focus
   have e:=jd (show CG s k=-1 by unfold CG;rw[ae d,ko,gD (by omega)];rfl);clear a
  rotate_left
 all_goals
  go_enter Tryz.func10,Tryz.ntmps10;go_wp2_with fail;go_ret;exact⟨aH (by rw[e.o];rfl),0,rfl⟩
theorem Fp(s:List Int)(v:Value)(w:World)(E:ib w v s)(T:s.length<=1000000000):Calls Tryz.prog 67 #[v] w (qL (.bool (SH.lU s)) w):=by
 obtain⟨A,U,rfl,V,X,-⟩:=id E;have Y:=jd E;have F:=jd (fun(i:Int)t(h:Ext w t)=>uV s _ i t (E.ext h));have Z:=jd (fun t(h:Ext w t)=>yM s _ t (E.ext h));clear E;obtain⟨R,L⟩:∃R,SH.lU s=R:=⟨_,rfl⟩;have O:=jd L;rw[L];clear L;go_enter Tryz.func67,Tryz.ntmps67;go_upto_region 2 with fail;go_loopw[3](fun i wr=>∃k:Nat,k<=s.length+1/\i=.int .i64 (k:Int)/\(∃n,wr=w.drewN n)/\SH.dn (s.drop k)=SH.dn s)(fun i _=>s.length+1-(intOf i).toNat);case atStart=>exact⟨0,aL _,rfl,⟨0,rfl⟩,rfl⟩
 case round=>
  obtain⟨k,hk,rfl,⟨n,rfl⟩,P⟩:=hrel;have Q:=(aa w).drewN n;have G:=jd Q;clear Q;have H:=jd P;clear P;by_cases I:k<s.length
  .obtain⟨b,o,rfl,a⟩:=(Y.o.ext G.o).at_ I;by_cases D:s[k]=92
   .by_cases r:k+1<s.length
    .have u:=jd (F.o ((k:Int)+1) _ G.o);rw[show CG s ((k:Int)+1)=s[k+1]by unfold CG;rw[ae (by omega),show((k:Int)+1).toNat=k+1 by omega,aU r];rfl]at u;rw[D]at a;have z:=jd (SH.Hu r D);obtain⟨d,S⟩:∃d,s[k+1]=d:=⟨_,rfl⟩;rw[S]at u z;clear S D;by_cases B:d=47
     .have HF:=jd (show SH.dn s=false by rw[<-H.o,z.o];simp[B]);subst B;go_wp2_with(go_at_call 10;refine(u.o).mono ?_;rintro e K⟨rfl,m,rfl⟩);go_ret;refine⟨aH ?_,(aa w).drewN _⟩;rw[<-O.o,SH.lU,HF.o];rfl
     .have f:=jd (show SH.dn (s.drop (k+2))=SH.dn s by rw[<-H.o,z.o];simp[B]);go_wp2_with(go_at_call 10;refine(u.o).mono ?_;rintro e K⟨rfl,m,rfl⟩);go_roundw;case rel=>exact⟨k+2,by omega,by go_num,⟨n+m,by simp⟩,f.o⟩
      case measure=>simp[intOf];omega
    .have f:=jd (show SH.dn (s.drop (k+2))=SH.dn s by rw[<-H.o,SH.oC (by omega),SH.oC (by omega)]);have u:=jd (F.o ((k:Int)+1) _ G.o);rw[show CG s ((k:Int)+1)=-1 by unfold CG;rw[ae (by omega),show((k:Int)+1).toNat=k+1 by omega,gD (by omega)];rfl]at u;rw[D]at a;clear D;go_wp2_with(go_at_call 10;refine(u.o).mono ?_;rintro e K⟨rfl,m,rfl⟩);go_roundw;case rel=>exact⟨k+2,by omega,by go_num,⟨n+m,by simp⟩,f.o⟩
     case measure=>simp[intOf];omega
   .have f:=jd (show SH.dn (s.drop (k+1))=SH.dn s by rw[<-H.o,SH.Fe I D]);go_wp2_with fail;go_roundw;case rel=>exact⟨k+1,by omega,by go_num,⟨n,rfl⟩,f.o⟩
    case measure=>simp[intOf];omega
  .have HT:=jd (show SH.dn s=true by rw[<-H.o];exact SH.oC (by omega));go_upto_region 8 with fail;obtain⟨J,C⟩:∃J,(PG.compile s).2.1=J:=⟨_,rfl⟩;have M:=jd (show R=decide (J=0)by rw[<-O.o,SH.lU,HT.o,C];rfl);have rA:=jd (show Calls Tryz.prog 46 #[.slice A s.length U] (w.drewN n) (fun e t=>Ext (w.drewN n) t/\∃p b,e=.returned (.tuple #[p,.agg #[.int .i64 J,.int .i64 b]]))from(Z.o _ G.o).mono (by rintro e K⟨j,v2,rfl,hs2⟩;exact⟨j,_,_,by rw[C]⟩));clear C;go_wp2_with(go_at_call 46;refine(rA.o).mono ?_;rintro e K⟨j,p,b,rfl⟩;have N:=jd j;clear j);go_ret;refine⟨aH ?_,(G.o.trans N.o).alloc _⟩;rw[M.o];by_cases h0:J=0<;>simp[h0]
namespace SH
def nL(x:dC):Bool:=if x.kind=0 then !x.text.isEmpty&&Bd x.text&&decide (x.num=0)&&x.items.isEmpty&&dS x
 else if x.kind=1 then x.text.isEmpty&&x.items.isEmpty&&dS x
 else if x.kind=2 then x.text.isEmpty&&x.items.isEmpty&&dS x
 else if x.kind=3 then x.text.isEmpty&&!x.items.isEmpty&&decide (x.items.length<=20)&&x.items.all Bd&&dS x
 else if x.kind=4 then x.text.isEmpty&&x.items.isEmpty&&lU x.pat&&FM.may x.forms
 else if x.kind=5 then fA x.text&&decide (x.num=0)&&x.items.isEmpty&&dS x
 else if x.kind=6 then fA x.text&&decide (x.num=0)&&x.items.isEmpty&&dS x
 else if x.kind=7 then fA x.text&&decide (x.num=0)&&x.items.isEmpty&&lU x.pat&&FM.may x.forms
 else false
def aI(x:dC):Bool:=decide (0<=x.num)&&decide (x.num<=999)&&nL x
theorem H7(x:dC):ok1 x=(aI x&&decide (0<=x.deep)&&decide (x.deep<=12)&&!(holds x&&decide (12<=x.deep))):=by
 obtain⟨k,d,n,t,v,p,fo,w,z⟩:=x;unfold ok1 aI okK nL holds dS;dsimp only;have u:decide (d<12)=!decide (12<=d):=by
  by_cases h:d<12
  .rw[bJ h,bR (by omega)];rfl
  .rw[bR h,bJ (by omega)];rfl
 rw[u];by_cases a:k=0
 .subst a;simp[Bool.and_comm,Bool.and_left_comm,Bool.and_assoc]
 by_cases e:k=1
 .subst e;simp[Bool.and_comm,Bool.and_left_comm,Bool.and_assoc]
 by_cases f:k=2
 .subst f;simp[Bool.and_comm,Bool.and_left_comm,Bool.and_assoc]
 by_cases i:k=3
 .subst i;simp[Bool.and_comm,Bool.and_left_comm,Bool.and_assoc]
 by_cases j:k=4
 .subst j;simp[Bool.and_comm,Bool.and_left_comm,Bool.and_assoc]
 by_cases m:k=5
 .subst m;simp[Bool.and_comm,Bool.and_left_comm,Bool.and_assoc]
 by_cases r:k=6
 .subst r;simp[Bool.and_comm,Bool.and_left_comm,Bool.and_assoc]
 by_cases s:k=7
 .subst s;simp[Bool.and_comm,Bool.and_left_comm,Bool.and_assoc]
 simp[a,e,f,i,j,m,r,s]
end SH
theorem SG(k:Int)(m:k<0\/7<k)(d n:Int)(t:List Int)(i:List (List Int))(p:List Int)(fo:List FM.Form)(a e:Bool)(vt vi vp vf:Value)(w:World)(h:nS w ⟨k,d,n,t,i,p,fo,a,e⟩ vt vi vp vf)(H:p.length<=1000000000)(j:t.length<=1000000000):Calls Tryz.prog 44 #[dK k d n vt vi vp vf a e] w (qL (.bool (SH.aI ⟨k,d,n,t,i,p,fo,a,e⟩)) w):=by
 have K:=jd h.text;have L:=jd h.items;have M:=jd h.pat;have N:=jd h.forms;have tN:=jd H;have ZF:=jd j;obtain⟨At,r,s,u,v,z,A,cf,rfl,rfl,rfl,rfl,B,C,D,E⟩:=h.shape;clear h H j;dsimp only at K L M N B C D E;obtain⟨R,F⟩:∃R,SH.aI ⟨k,d,n,t,i,p,fo,a,e⟩=R:=⟨_,rfl⟩;have O:=jd F;rw[F];clear F;dsimp only[dK];have I:=jd ((aa w).alloc (.cells #[.int .i64 k,.int .i64 d,.int .i64 n,.slice At t.length r,.slice s i.length u,.slice v p.length z,.slice A fo.length cf,.bool a,.bool e] 28));have G:=jd (aB w (.cells #[.int .i64 k,.int .i64 d,.int .i64 n,.slice At t.length r,.slice s i.length u,.slice v p.length z,.slice A fo.length cf,.bool a,.bool e] 28));obtain⟨J,f⟩:∃J,J=w.heap.size:=⟨_,rfl⟩;rw[<-f]at G;have P:=jd f;clear f;have Q:(k==0)=false:=by simp;omega
 have S:(k==1)=false:=by simp;omega
 have T:(k==2)=false:=by simp;omega
 have U:(k==3)=false:=by simp;omega
 have V:(k==4)=false:=by simp;omega
 have X:(k==5)=false:=by simp;omega
 have WX:(k==6)=false:=by simp;omega
 have Y:(k==7)=false:=by simp;omega
 have Z:=jd (show R=false by rw[<-O.o];simp[SH.aI,SH.nL,show k≠0 by omega,show k≠1 by omega,show k≠2 by omega,show k≠3 by omega,show k≠4 by omega,show k≠5 by omega,show k≠6 by omega,show k≠7 by omega]);rcases m with m|m;focus
  skip
 rotate_left;focus
  skip;have hk9:¬k<0:=by omega
 rotate_left;all_goals
  go_enter Tryz.func44,Tryz.ntmps44;go_upto_region 1 with fail;rw[<-P.o];generalize w.alloc (.cells #[.int .i64 k,.int .i64 d,.int .i64 n,.slice At t.length r,.slice s i.length u,.slice v p.length z,.slice A fo.length cf,.bool a,.bool e] 28)=w1 at I G⊢;obtain⟨d0,d1,d2,d3,d4,d5,d6,d7,d8⟩:=BH G.o;go_wp2_with fail;go_ret;exact⟨aH (by rw[Z.o];first|done|rfl),I.o⟩
theorem Wu(d n:Int)(t:List Int)(a:List (List Int))(p:List Int)(fo:List FM.Form)(j m:Bool)(vt vi vp vf:Value)(w:World)(h:nS w ⟨1,d,n,t,a,p,fo,j,m⟩ vt vi vp vf)(P:p.length<=1000000000)(C:t.length<=1000000000):Calls Tryz.prog 44 #[dK 1 d n vt vi vp vf j m] w (qL (.bool (SH.aI ⟨1,d,n,t,a,p,fo,j,m⟩)) w):=by
 have S:=jd h.text;have T:=jd h.items;have U:=jd h.pat;have V:=jd h.forms;have tN:=jd P;have ZF:=jd C;obtain⟨At,D,E,F,G,H,I,cf,rfl,rfl,rfl,rfl,J,K,L,M⟩:=h.shape;clear h P C;dsimp only at S T U V J K L M;obtain⟨R,N⟩:∃R,SH.aI ⟨1,d,n,t,a,p,fo,j,m⟩=R:=⟨_,rfl⟩;have u:=jd N;rw[N];clear N;dsimp only[dK];have r:=jd ((aa w).alloc (.cells #[.int .i64 1,.int .i64 d,.int .i64 n,.slice At t.length D,.slice E a.length F,.slice G p.length H,.slice I fo.length cf,.bool j,.bool m] 28));have O:=jd (aB w (.cells #[.int .i64 1,.int .i64 d,.int .i64 n,.slice At t.length D,.slice E a.length F,.slice G p.length H,.slice I fo.length cf,.bool j,.bool m] 28));obtain⟨Q,v⟩:∃Q,Q=w.heap.size:=⟨_,rfl⟩;rw[<-v]at O;have X:=jd v;clear v;go_enter Tryz.func44,Tryz.ntmps44;go_upto_region 1 with fail;rw[<-X.o];generalize w.alloc (.cells #[.int .i64 1,.int .i64 d,.int .i64 n,.slice At t.length D,.slice E a.length F,.slice G p.length H,.slice I fo.length cf,.bool j,.bool m] 28)=w1 at r O⊢;obtain⟨d0,d1,d2,d3,d4,d5,d6,d7,d8⟩:=BH O.o;go_upto_region 4 with fail;by_cases Y:0<=n;rotate_left
 .have WZ:n<0:=by omega
  have f:=jd (show R=false by rw[<-u.o];simp[SH.aI, *]);go_wp2_with fail;go_ret;exact⟨aH (by rw[f.o];first|done|rfl),r.o⟩
 by_cases Z:n<=999;rotate_left
 .have W9:999<n:=by omega
  have f:=jd (show R=false by rw[<-u.o];simp[SH.aI, *]);go_wp2_with fail;go_ret;exact⟨aH (by rw[f.o];first|done|rfl),r.o⟩
 by_cases e:t=[];rotate_left
 .have e0:0<t.length:=gq.2 e;have e1:(0:Int)<t.length:=by omega
  have f:=jd (show R=false by rw[<-u.o];simp[SH.aI,SH.nL,e]);clear e;go_wp2_with fail;go_ret;exact⟨aH (by rw[f.o];first|done|rfl),r.o⟩
 have e1:¬(0:Int)<t.length:=by simp[e]
 have e2:¬0<t.length:=by simp[e]
 have ET:=jd e;clear e;go_upto_region 6 with fail;go_quiet(fail);by_cases z:a=[];rotate_left
 .have i0:0<a.length:=gq.2 z;have i1:(0:Int)<a.length:=by omega
  have f:=jd (show R=false by rw[<-u.o];simp[SH.aI,SH.nL,z]);clear z;go_wp2_with fail;go_ret;exact⟨aH (by rw[f.o];first|done|rfl),r.o.drewN _⟩
 have i1:¬(0:Int)<a.length:=by simp[z]
 have i2:¬0<a.length:=by simp[z]
 have EI:=jd z;clear z;go_wp2_with fail;go_loop[6](fun i=>∃k:Nat,k<=a.length/\i=.int .i64 (k:Int)/\∀x∈a.take k,SH.Bd x=true)(fun i=>a.length-(intOf i).toNat);case atStart=>exact⟨0,aL _,rfl,by simp⟩
 obtain⟨k,hk,rfl,s⟩:=hrel;have qA:=jd s;clear s;by_cases hlt:k<a.length
 .exfalso;omega
 by_cases A:p=[];rotate_left
 .have f0:0<p.length:=gq.2 A;have f1:((p.length:Int)==0)=false:=by simp;omega
  have f2:(p.length==0)=false:=by simp;omega
  have f:=jd (show R=false by rw[<-u.o];simp[SH.aI,SH.nL,SH.dS,A]);clear A;go_wp2_with fail;go_ret;exact⟨aH (by rw[f.o];first|done|rfl),r.o.drewN _⟩
 have f1p:((p.length:Int)==0)=true:=by simp[A]
 have f2p:(p.length==0)=true:=by simp[A]
 have Ep:=jd A;clear A;by_cases B:fo=[];rotate_left
 .have f0:0<fo.length:=gq.2 B;have f1:((fo.length:Int)==0)=false:=by simp;omega
  have f2:(fo.length==0)=false:=by simp;omega
  have f:=jd (show R=false by rw[<-u.o];simp[SH.aI,SH.nL,SH.dS,B]);clear B;go_wp2_with fail;go_ret;exact⟨aH (by rw[f.o];first|done|rfl),r.o.drewN _⟩
 have WB:((fo.length:Int)==0)=true:=by simp[B]
 have WC:(fo.length==0)=true:=by simp[B]
 have WE:=jd B;clear B;have f:=jd (show R=(!j&&!m)by rw[<-u.o];simp[SH.aI,SH.nL,SH.dS,Ep.o,WE.o,Y,Z,ET.o,EI.o];try omega);cases j<;>cases m;all_goals
  go_wp2_with fail;go_ret;exact⟨aH (by rw[f.o];first|done|rfl),r.o.drewN _⟩
theorem Wv(d n:Int)(t:List Int)(a:List (List Int))(p:List Int)(fo:List FM.Form)(j m:Bool)(vt vi vp vf:Value)(w:World)(h:nS w ⟨2,d,n,t,a,p,fo,j,m⟩ vt vi vp vf)(P:p.length<=1000000000)(C:t.length<=1000000000):Calls Tryz.prog 44 #[dK 2 d n vt vi vp vf j m] w (qL (.bool (SH.aI ⟨2,d,n,t,a,p,fo,j,m⟩)) w):=by
 have S:=jd h.text;have T:=jd h.items;have U:=jd h.pat;have V:=jd h.forms;have tN:=jd P;have ZF:=jd C;obtain⟨At,D,E,F,G,H,I,cf,rfl,rfl,rfl,rfl,J,K,L,M⟩:=h.shape;clear h P C;dsimp only at S T U V J K L M;obtain⟨R,N⟩:∃R,SH.aI ⟨2,d,n,t,a,p,fo,j,m⟩=R:=⟨_,rfl⟩;have u:=jd N;rw[N];clear N;dsimp only[dK];have r:=jd ((aa w).alloc (.cells #[.int .i64 2,.int .i64 d,.int .i64 n,.slice At t.length D,.slice E a.length F,.slice G p.length H,.slice I fo.length cf,.bool j,.bool m] 28));have O:=jd (aB w (.cells #[.int .i64 2,.int .i64 d,.int .i64 n,.slice At t.length D,.slice E a.length F,.slice G p.length H,.slice I fo.length cf,.bool j,.bool m] 28));obtain⟨Q,v⟩:∃Q,Q=w.heap.size:=⟨_,rfl⟩;rw[<-v]at O;have X:=jd v;clear v;go_enter Tryz.func44,Tryz.ntmps44;go_upto_region 1 with fail;rw[<-X.o];generalize w.alloc (.cells #[.int .i64 2,.int .i64 d,.int .i64 n,.slice At t.length D,.slice E a.length F,.slice G p.length H,.slice I fo.length cf,.bool j,.bool m] 28)=w1 at r O⊢;obtain⟨d0,d1,d2,d3,d4,d5,d6,d7,d8⟩:=BH O.o;go_upto_region 4 with fail;by_cases Y:0<=n;rotate_left
 .have WZ:n<0:=by omega
  have f:=jd (show R=false by rw[<-u.o];simp[SH.aI, *]);go_wp2_with fail;go_ret;exact⟨aH (by rw[f.o];first|done|rfl),r.o⟩
 by_cases Z:n<=999;rotate_left
 .have W9:999<n:=by omega
  have f:=jd (show R=false by rw[<-u.o];simp[SH.aI, *]);go_wp2_with fail;go_ret;exact⟨aH (by rw[f.o];first|done|rfl),r.o⟩
 by_cases e:t=[];rotate_left
 .have e0:0<t.length:=gq.2 e;have e1:(0:Int)<t.length:=by omega
  have f:=jd (show R=false by rw[<-u.o];simp[SH.aI,SH.nL,e]);clear e;go_wp2_with fail;go_ret;exact⟨aH (by rw[f.o];first|done|rfl),r.o⟩
 have e1:¬(0:Int)<t.length:=by simp[e]
 have e2:¬0<t.length:=by simp[e]
 have ET:=jd e;clear e;go_upto_region 6 with fail;go_quiet(fail);by_cases z:a=[];rotate_left
 .have i0:0<a.length:=gq.2 z;have i1:(0:Int)<a.length:=by omega
  have f:=jd (show R=false by rw[<-u.o];simp[SH.aI,SH.nL,z]);clear z;go_wp2_with fail;go_ret;exact⟨aH (by rw[f.o];first|done|rfl),r.o.drewN _⟩
 have i1:¬(0:Int)<a.length:=by simp[z]
 have i2:¬0<a.length:=by simp[z]
 have EI:=jd z;clear z;go_wp2_with fail;go_loop[6](fun i=>∃k:Nat,k<=a.length/\i=.int .i64 (k:Int)/\∀x∈a.take k,SH.Bd x=true)(fun i=>a.length-(intOf i).toNat);case atStart=>exact⟨0,aL _,rfl,by simp⟩
 obtain⟨k,hk,rfl,s⟩:=hrel;have qA:=jd s;clear s;by_cases hlt:k<a.length
 .exfalso;omega
 by_cases A:p=[];rotate_left
 .have f0:0<p.length:=gq.2 A;have f1:((p.length:Int)==0)=false:=by simp;omega
  have f2:(p.length==0)=false:=by simp;omega
  have f:=jd (show R=false by rw[<-u.o];simp[SH.aI,SH.nL,SH.dS,A]);clear A;go_wp2_with fail;go_ret;exact⟨aH (by rw[f.o];first|done|rfl),r.o.drewN _⟩
 have f1p:((p.length:Int)==0)=true:=by simp[A]
 have f2p:(p.length==0)=true:=by simp[A]
 have Ep:=jd A;clear A;by_cases B:fo=[];rotate_left
 .have f0:0<fo.length:=gq.2 B;have f1:((fo.length:Int)==0)=false:=by simp;omega
  have f2:(fo.length==0)=false:=by simp;omega
  have f:=jd (show R=false by rw[<-u.o];simp[SH.aI,SH.nL,SH.dS,B]);clear B;go_wp2_with fail;go_ret;exact⟨aH (by rw[f.o];first|done|rfl),r.o.drewN _⟩
 have WB:((fo.length:Int)==0)=true:=by simp[B]
 have WC:(fo.length==0)=true:=by simp[B]
 have WE:=jd B;clear B;have f:=jd (show R=(!j&&!m)by rw[<-u.o];simp[SH.aI,SH.nL,SH.dS,Ep.o,WE.o,Y,Z,ET.o,EI.o];try omega);cases j<;>cases m;all_goals
  go_wp2_with fail;go_ret;exact⟨aH (by rw[f.o];first|done|rfl),r.o.drewN _⟩
theorem Ww(d n:Int)(t:List Int)(a:List (List Int))(p:List Int)(fo:List FM.Form)(j m:Bool)(vt vi vp vf:Value)(w:World)(h:nS w ⟨3,d,n,t,a,p,fo,j,m⟩ vt vi vp vf)(hp:p.length<=1000000000)(G:t.length<=1000000000):Calls Tryz.prog 44 #[dK 3 d n vt vi vp vf j m] w (qL (.bool (SH.aI ⟨3,d,n,t,a,p,fo,j,m⟩)) w):=by
 have nR:=jd h.text;have JH:=jd h.items;have Cb:=jd h.pat;have uh:=jd h.forms;have tN:=jd hp;have ZF:=jd G;obtain⟨At,L,M,N,O,P,Q,cf,rfl,rfl,rfl,rfl,S,T,U,V⟩:=h.shape;clear h hp G;dsimp only at nR JH Cb uh S T U V;obtain⟨R,X⟩:∃R,SH.aI ⟨3,d,n,t,a,p,fo,j,m⟩=R:=⟨_,rfl⟩;have r:=jd X;rw[X];clear X;dsimp only[dK];have v:=jd ((aa w).alloc (.cells #[.int .i64 3,.int .i64 d,.int .i64 n,.slice At t.length L,.slice M a.length N,.slice O p.length P,.slice Q fo.length cf,.bool j,.bool m] 28));have Y:=jd (aB w (.cells #[.int .i64 3,.int .i64 d,.int .i64 n,.slice At t.length L,.slice M a.length N,.slice O p.length P,.slice Q fo.length cf,.bool j,.bool m] 28));obtain⟨nb,z⟩:∃nb,nb=w.heap.size:=⟨_,rfl⟩;rw[<-z]at Y;have mD:=jd z;clear z;go_enter Tryz.func44,Tryz.ntmps44;go_upto_region 1 with fail;rw[<-mD.o];generalize w.alloc (.cells #[.int .i64 3,.int .i64 d,.int .i64 n,.slice At t.length L,.slice M a.length N,.slice O p.length P,.slice Q fo.length cf,.bool j,.bool m] 28)=w1 at v Y⊢;obtain⟨d0,d1,d2,d3,d4,d5,d6,d7,d8⟩:=BH Y.o;go_upto_region 4 with fail;by_cases q0:0<=n;rotate_left;focus
  have WZ:n<0:=by omega
  have f:=jd (show R=false by rw[<-r.o];simp[SH.aI, *])
 rotate_left;focus
  by_cases q1:n<=999;rotate_left;focus
   have W9:999<n:=by omega
   have f:=jd (show R=false by rw[<-r.o];simp[SH.aI, *])
  rotate_left;focus
   by_cases e:t=[];rotate_left;focus
    have e0:0<t.length:=gq.2 e;have e1:(0:Int)<t.length:=by omega
    have f:=jd (show R=false by rw[<-r.o];simp[SH.aI,SH.nL,e]);clear e
   rotate_left;focus
    have e1:¬(0:Int)<t.length:=by simp[e]
    have e2:¬0<t.length:=by simp[e]
    have ET:=jd e;clear e;go_upto_region 6 with fail;go_quiet(fail);by_cases A:a=[];focus
     have i1:(a.length:Int)<1:=by simp[A]
     have i2:a.length<1:=by simp[A]
     have f:=jd (show R=false by rw[<-r.o];simp[SH.aI,SH.nL,A]);clear A;go_wp2_with fail
    rotate_left;focus
     have i0:0<a.length:=gq.2 A;have i1:¬(a.length:Int)<1:=by omega
     have i2:¬a.length<1:=by omega
     have EI:=jd A;clear A;by_cases i3:a.length<=20;rotate_left;focus
      have i4:(20:Int)<a.length:=by omega
      have f:=jd (show R=false by rw[<-r.o];simp[SH.aI,SH.nL,i3]);go_wp2_with fail
     rotate_left;focus
      have i4:¬(20:Int)<a.length:=by omega
      have Z:=jd i3;go_wp2_with fail;go_loop[6](fun i=>∃k:Nat,k<=a.length/\i=.int .i64 (k:Int)/\∀x∈a.take k,SH.Bd x=true)(fun i=>a.length-(intOf i).toNat);case atStart=>exact⟨0,aL _,rfl,by simp⟩
      obtain⟨k,hk,rfl,u⟩:=hrel;have qA:=jd u;clear u;by_cases B:k<a.length;focus
       have acJ:(k:Int)<a.length:=by omega
       obtain⟨b,o,A1,c1,rfl,H,C⟩:=JH.o.at1 B;have hc:=v.o.cell H;have I:=jd (fun W(hW:Ext w W)=>uM _ _ W (C.ext hW));have J:=jd (kE B);have K:=jd (bK B);generalize a[k]=y at hc C I J K;clear H C;rcases F:y.all RX.aQ with _|_;focus
        rw[F]at I;have ENO:=jd (show a.all SH.Bd=false by rw[Bool.eq_false_iff];intro h;have:=yO.1 h y K.o;unfold SH.Bd at this;rw[F]at this;cases this);have f:=jd (show R=false by rw[<-r.o];simp[SH.aI,SH.nL,ENO.o]);clear F;go_wp2_with(go_at_call 66;refine(I.o _ (v.o.drewN _)).mono ?_;rintro e9 w9⟨rfl,rfl⟩)
       rotate_left
       .have HY:=jd F;rw[F]at I;clear F;go_wp2_with(go_at_call 66;refine(I.o _ (v.o.drewN _)).mono ?_;rintro e9 w9⟨rfl,rfl⟩);go_round;case rel=>
         refine⟨k+1,by omega,by go_num,fun x s=>?_⟩;rw[J.o]at s;rcases iN.1 s with s|s
         .exact qA.o x s
         .simp at s;subst s;exact HY.o
        case measure=>simp[intOf];omega
      rotate_left;focus
       have aeJ:=jd (show a.all SH.Bd=true from yO.2 fun x s=>qA.o x (by rw[pU (by omega)];exact s));by_cases D:p=[];rotate_left;focus
        have f0:0<p.length:=gq.2 D;have f1:((p.length:Int)==0)=false:=by simp;omega
        have f2:(p.length==0)=false:=by simp;omega
        have f:=jd (show R=false by rw[<-r.o];simp[SH.aI,SH.nL,SH.dS,D]);clear D;go_wp2_with fail
       rotate_left;focus
        have f1p:((p.length:Int)==0)=true:=by simp[D]
        have f2p:(p.length==0)=true:=by simp[D]
        have Ep:=jd D;clear D;by_cases E:fo=[];rotate_left;focus
         have f0:0<fo.length:=gq.2 E;have f1:((fo.length:Int)==0)=false:=by simp;omega
         have f2:(fo.length==0)=false:=by simp;omega
         have f:=jd (show R=false by rw[<-r.o];simp[SH.aI,SH.nL,SH.dS,E]);clear E;go_wp2_with fail
        rotate_left;focus
         have WB:((fo.length:Int)==0)=true:=by simp[E]
         have WC:(fo.length==0)=true:=by simp[E]
         have WE:=jd E;clear E;have f:=jd (show R=(!j&&!m)by rw[<-r.o];simp[SH.aI,SH.nL,SH.dS,Ep.o,WE.o,q0,q1,ET.o,EI.o,Z.o,aeJ.o];try omega);cases j<;>cases m;all_goals
          go_wp2_with fail;go_ret;exact⟨aH (by rw[f.o];first|done|rfl),v.o.drewN _⟩
    all_goals
     go_ret;exact⟨aH (by rw[f.o];first|done|rfl),v.o.drewN _⟩
 all_goals
  go_wp2_with fail;go_ret;exact⟨aH (by rw[f.o];first|done|rfl),v.o⟩
theorem Wx(d n:Int)(t:List Int)(a:List (List Int))(p:List Int)(fo:List FM.Form)(s u:Bool)(vt vi vp vf:Value)(w:World)(h:nS w ⟨4,d,n,t,a,p,fo,s,u⟩ vt vi vp vf)(V:p.length<=1000000000)(C:t.length<=1000000000):Calls Tryz.prog 44 #[dK 4 d n vt vi vp vf s u] w (qL (.bool (SH.aI ⟨4,d,n,t,a,p,fo,s,u⟩)) w):=by
 have nR:=jd h.text;have JH:=jd h.items;have X:=jd h.pat;have Y:=jd h.forms;have tN:=jd V;have ZF:=jd C;obtain⟨At,F,G,H,I,J,K,cf,rfl,rfl,rfl,rfl,L,M,N,O⟩:=h.shape;clear h V C;dsimp only at nR JH X Y L M N O;obtain⟨R,P⟩:∃R,SH.aI ⟨4,d,n,t,a,p,fo,s,u⟩=R:=⟨_,rfl⟩;have A:=jd P;rw[P];clear P;dsimp only[dK];have j:=jd ((aa w).alloc (.cells #[.int .i64 4,.int .i64 d,.int .i64 n,.slice At t.length F,.slice G a.length H,.slice I p.length J,.slice K fo.length cf,.bool s,.bool u] 28));have Q:=jd (aB w (.cells #[.int .i64 4,.int .i64 d,.int .i64 n,.slice At t.length F,.slice G a.length H,.slice I p.length J,.slice K fo.length cf,.bool s,.bool u] 28));obtain⟨Z,v⟩:∃Z,Z=w.heap.size:=⟨_,rfl⟩;rw[<-v]at Q;have mD:=jd v;clear v;go_enter Tryz.func44,Tryz.ntmps44;go_upto_region 1 with fail;rw[<-mD.o];generalize w.alloc (.cells #[.int .i64 4,.int .i64 d,.int .i64 n,.slice At t.length F,.slice G a.length H,.slice I p.length J,.slice K fo.length cf,.bool s,.bool u] 28)=w1 at j Q⊢;obtain⟨d0,d1,d2,d3,d4,d5,d6,d7,d8⟩:=BH Q.o;go_upto_region 4 with fail;by_cases q0:0<=n;rotate_left
 .have WZ:n<0:=by omega
  have f:=jd (show R=false by rw[<-A.o];simp[SH.aI, *]);go_wp2_with fail;go_ret;exact⟨aH (by rw[f.o];first|done|rfl),j.o⟩
 by_cases q1:n<=999;rotate_left
 .have W9:999<n:=by omega
  have f:=jd (show R=false by rw[<-A.o];simp[SH.aI, *]);go_wp2_with fail;go_ret;exact⟨aH (by rw[f.o];first|done|rfl),j.o⟩
 by_cases e:t=[];rotate_left
 .have e0:0<t.length:=gq.2 e;have e1:(0:Int)<t.length:=by omega
  have f:=jd (show R=false by rw[<-A.o];simp[SH.aI,SH.nL,e]);clear e;go_wp2_with fail;go_ret;exact⟨aH (by rw[f.o];first|done|rfl),j.o⟩
 have e1:¬(0:Int)<t.length:=by simp[e]
 have e2:¬0<t.length:=by simp[e]
 have ET:=jd e;clear e;go_upto_region 6 with fail;go_quiet(fail);by_cases z:a=[];rotate_left
 .have i0:0<a.length:=gq.2 z;have i1:(0:Int)<a.length:=by omega
  have f:=jd (show R=false by rw[<-A.o];simp[SH.aI,SH.nL,z]);clear z;go_wp2_with fail;go_ret;exact⟨aH (by rw[f.o];first|done|rfl),j.o.drewN _⟩
 have i1:¬(0:Int)<a.length:=by simp[z]
 have i2:¬0<a.length:=by simp[z]
 have EI:=jd z;clear z;go_wp2_with fail;go_loop[6](fun i=>∃k:Nat,k<=a.length/\i=.int .i64 (k:Int)/\∀x∈a.take k,SH.Bd x=true)(fun i=>a.length-(intOf i).toNat);case atStart=>exact⟨0,aL _,rfl,by simp⟩
 obtain⟨k,hk,rfl,r⟩:=hrel;have qA:=jd r;clear r;by_cases hlt:k<a.length
 .exfalso;omega
 have D:=jd (fun W(S:Ext w W)=>Fp p _ W (X.o.ext S) tN.o);have T:=jd (fun W(S:Ext w W)=>sI fo _ W (Y.o.ext S));rcases B:SH.lU p with _|_
 .rw[B]at D;have f:=jd (show R=false by rw[<-A.o];simp[SH.aI,SH.nL,B]);clear B;go_wp2_with(go_at_call 67;refine(D.o _ (j.o.drewN _)).mono ?_;rintro e9 w9⟨rfl,m⟩;have E:=jd m;clear m);go_ret;exact⟨aH (by rw[f.o];first|done|rfl),(j.o.drewN _).trans E.o⟩
 rw[B]at D;have f:=jd (show R=FM.may fo by rw[<-A.o];simp[SH.aI,SH.nL,B,q0,q1,ET.o,EI.o];try omega);clear B;go_wp2_with(first|(go_at_call 67;refine(D.o _ (j.o.drewN _)).mono ?_;rintro e9 w9⟨rfl,m⟩;have E:=jd ((j.o.drewN _).trans m);have d6:=m.cell (show(w1.drewN _).cell? _=_ from d6);clear m)|(go_at_call 68;refine(T.o _ E.o).mono ?_;rintro e9 Vn⟨rfl,m⟩;have U:=jd (E.o.trans m);clear m));go_ret;exact⟨aH (by rw[f.o];first|done|rfl),U.o⟩
end Go.Proofs.YtcogknbbbjnaiaaGreatDoor
