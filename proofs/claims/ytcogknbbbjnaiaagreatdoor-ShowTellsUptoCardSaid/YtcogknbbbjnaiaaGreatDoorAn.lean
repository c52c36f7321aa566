/- For ShowTells: what the texts XShRc XShRd XShR of wip/tpl say. -/
import Derived.Test.YtcogknbbbjnaiaaGreatDoorAm
set_option maxRecDepth 100000
set_option maxHeartbeats 4000000
namespace Go.Proofs.YtcogknbbbjnaiaaGreatDoor
open Go.RowKit
theorem Wt(d n:Int)(t:List Int)(a:List (List Int))(p:List Int)(fo:List FM.Form)(j r:Bool)(vt vi vp vf:Value)(w:World)(h:nS w ⟨0,d,n,t,a,p,fo,j,r⟩ vt vi vp vf)(V:p.length<=1000000000)(D:t.length<=1000000000):Calls Tryz.prog 44 #[dK 0 d n vt vi vp vf j r] w (qL (.bool (SH.aI ⟨0,d,n,t,a,p,fo,j,r⟩)) w):=by
 have X:=jd h.text;have JH:=jd h.items;have Cb:=jd h.pat;have uh:=jd h.forms;have tN:=jd V;have ZF:=jd D;obtain⟨At,H,I,J,K,L,M,cf,rfl,rfl,rfl,rfl,N,O,P,Q⟩:=h.shape;clear h V D;dsimp only at X JH Cb uh N O P Q;obtain⟨R,S⟩:∃R,SH.aI ⟨0,d,n,t,a,p,fo,j,r⟩=R:=⟨_,rfl⟩;have s:=jd S;rw[S];clear S;dsimp only[dK];have E:=jd ((aa w).alloc (.cells #[.int .i64 0,.int .i64 d,.int .i64 n,.slice At t.length H,.slice I a.length J,.slice K p.length L,.slice M fo.length cf,.bool j,.bool r] 28));have T:=jd (aB w (.cells #[.int .i64 0,.int .i64 d,.int .i64 n,.slice At t.length H,.slice I a.length J,.slice K p.length L,.slice M fo.length cf,.bool j,.bool r] 28));obtain⟨Y,v⟩:∃Y,Y=w.heap.size:=⟨_,rfl⟩;rw[<-v]at T;have mD:=jd v;clear v;go_enter Tryz.func44,Tryz.ntmps44;go_upto_region 1 with fail;rw[<-mD.o];generalize w.alloc (.cells #[.int .i64 0,.int .i64 d,.int .i64 n,.slice At t.length H,.slice I a.length J,.slice K p.length L,.slice M fo.length cf,.bool j,.bool r] 28)=Z at E T⊢;obtain⟨d0,d1,d2,d3,d4,d5,d6,d7,d8⟩:=BH T.o;go_upto_region 4 with fail;by_cases q0:0<=n;rotate_left;focus
  have WZ:n<0:=by omega
  have f:=jd (show R=false by rw[<-s.o];simp[SH.aI, *])
 rotate_left;focus
  by_cases q1:n<=999;rotate_left;focus
   have W9:999<n:=by omega
   have f:=jd (show R=false by rw[<-s.o];simp[SH.aI, *])
  rotate_left;focus
   rcases F:(n !=0)with _|_;rotate_left;focus
    have e:n≠0:=by simpa using F
    have f:=jd (show R=false by rw[<-s.o];simp[SH.aI,SH.nL,e]);clear e
   rotate_left;focus
    have EN:=jd (show n=0 by simpa using F);by_cases e:t=[];focus
     have e1:((t.length:Int)==0)=true:=by simp[e]
     have e2:(t.length==0)=true:=by simp[e]
     have f:=jd (show R=false by rw[<-s.o];simp[SH.aI,SH.nL,e]);clear e;go_upto_region 6 with fail;go_quiet(fail)
    rotate_left;focus
     have e0:0<t.length:=gq.2 e;have e1:((t.length:Int)==0)=false:=by simp;omega
     have e2:(t.length==0)=false:=by simp;omega
     have EE:=jd e;clear e;go_upto_region 6 with fail;obtain⟨sg,z⟩:∃sg,SH.Bd t=sg:=⟨_,rfl⟩;have G:=jd (fun m=>show Calls Tryz.prog 66 #[.slice At t.length H] (Z.drewN m) (fun e U=>e=.returned (.bool sg)/\∃q,U=Z.drewN q)from(uM t _ _ (X.o.ext (E.o.drewN m))).mono (by rintro e9 w9⟨rfl,rfl⟩;exact⟨by rw[<-z];rfl,m,rfl⟩));have EM:=jd z;clear z;rcases sg with _|_;focus
      skip;have f:=jd (show R=false by rw[<-s.o];simp[SH.aI,SH.nL,EM.o]);go_quiet((go_at_call 66;exact G.o _))
     rotate_left;focus
      go_quiet((go_at_call 66;exact G.o _));by_cases A:a=[];rotate_left;focus
       have i0:0<a.length:=gq.2 A;have i1:(0:Int)<a.length:=by omega
       have f:=jd (show R=false by rw[<-s.o];simp[SH.aI,SH.nL,A]);clear A
      rotate_left;focus
       have i1:¬(0:Int)<a.length:=by simp[A]
       have i2:¬0<a.length:=by simp[A]
       have EI:=jd A;clear A;go_wp2_with fail;go_loop[6](fun i=>∃k:Nat,k<=a.length/\i=.int .i64 (k:Int)/\∀x∈a.take k,SH.Bd x=true)(fun i=>a.length-(intOf i).toNat);case atStart=>exact⟨0,aL _,rfl,by simp⟩
       obtain⟨k,hk,rfl,u⟩:=hrel;have qA:=jd u;clear u;by_cases hlt:k<a.length
       .exfalso;omega
       by_cases B:p=[];rotate_left;focus
        have f0:0<p.length:=gq.2 B;have f1:((p.length:Int)==0)=false:=by simp;omega
        have f2:(p.length==0)=false:=by simp;omega
        have f:=jd (show R=false by rw[<-s.o];simp[SH.aI,SH.nL,SH.dS,B]);clear B
       rotate_left;focus
        have f1p:((p.length:Int)==0)=true:=by simp[B]
        have f2p:(p.length==0)=true:=by simp[B]
        have Ep:=jd B;clear B;by_cases C:fo=[];rotate_left;focus
         have f0:0<fo.length:=gq.2 C;have f1:((fo.length:Int)==0)=false:=by simp;omega
         have f2:(fo.length==0)=false:=by simp;omega
         have f:=jd (show R=false by rw[<-s.o];simp[SH.aI,SH.nL,SH.dS,C]);clear C
        rotate_left;focus
         have WB:((fo.length:Int)==0)=true:=by simp[C]
         have WC:(fo.length==0)=true:=by simp[C]
         have WE:=jd C;clear C;have f:=jd (show R=(!j&&!r)by rw[<-s.o];simp[SH.aI,SH.nL,SH.dS,Ep.o,WE.o,EN.o,EM.o,EE.o,EI.o];try omega);cases j<;>cases r;all_goals
          go_wp2_with fail;go_ret;exact⟨aH (by rw[f.o];first|done|rfl),E.o.drewN _⟩
    all_goals
     go_wp2_with fail;go_ret;exact⟨aH (by rw[f.o];first|done|rfl),E.o.drewN _⟩
 all_goals
  go_wp2_with fail;go_ret;exact⟨aH (by rw[f.o];first|done|rfl),E.o⟩
theorem Wy(d n:Int)(t:List Int)(f:List (List Int))(p:List Int)(fo:List FM.Form)(s u:Bool)(vt vi vp vf:Value)(w:World)(h:nS w ⟨5,d,n,t,f,p,fo,s,u⟩ vt vi vp vf)(hp:p.length<=1000000000)(G:t.length<=1000000000):Calls Tryz.prog 44 #[dK 5 d n vt vi vp vf s u] w (qL (.bool (SH.aI ⟨5,d,n,t,f,p,fo,s,u⟩)) w):=by
 have K:=jd h.text;have JH:=jd h.items;have Cb:=jd h.pat;have uh:=jd h.forms;have tN:=jd hp;have ZF:=jd G;obtain⟨At,I,L,M,N,O,P,cf,rfl,rfl,rfl,rfl,Q,S,T,U⟩:=h.shape;clear h hp G;dsimp only at K JH Cb uh Q S T U;obtain⟨R,V⟩:∃R,SH.aI ⟨5,d,n,t,f,p,fo,s,u⟩=R:=⟨_,rfl⟩;have v:=jd V;rw[V];clear V;dsimp only[dK];have F:=jd ((aa w).alloc (.cells #[.int .i64 5,.int .i64 d,.int .i64 n,.slice At t.length I,.slice L f.length M,.slice N p.length O,.slice P fo.length cf,.bool s,.bool u] 28));have X:=jd (aB w (.cells #[.int .i64 5,.int .i64 d,.int .i64 n,.slice At t.length I,.slice L f.length M,.slice N p.length O,.slice P fo.length cf,.bool s,.bool u] 28));obtain⟨nb,A⟩:∃nb,nb=w.heap.size:=⟨_,rfl⟩;rw[<-A]at X;have mD:=jd A;clear A;go_enter Tryz.func44,Tryz.ntmps44;go_upto_region 1 with fail;rw[<-mD.o];generalize w.alloc (.cells #[.int .i64 5,.int .i64 d,.int .i64 n,.slice At t.length I,.slice L f.length M,.slice N p.length O,.slice P fo.length cf,.bool s,.bool u] 28)=Y at F X⊢;obtain⟨d0,d1,d2,d3,d4,d5,d6,d7,d8⟩:=BH X.o;go_upto_region 4 with fail;by_cases q0:0<=n;rotate_left;focus
  have WZ:n<0:=by omega
  have j:=jd (show R=false by rw[<-v.o];simp[SH.aI, *])
 rotate_left;focus
  by_cases q1:n<=999;rotate_left;focus
   have W9:999<n:=by omega
   have j:=jd (show R=false by rw[<-v.o];simp[SH.aI, *])
  rotate_left;focus
   rcases H:(n !=0)with _|_;rotate_left;focus
    have e:n≠0:=by simpa using H
    have j:=jd (show R=false by rw[<-v.o];simp[SH.aI,SH.nL,e]);clear e
   rotate_left;focus
    have EN:=jd (show n=0 by simpa using H);by_cases e:t=[];focus
     have e1:((t.length:Int)==0)=true:=by simp[e]
     have e2:(t.length==0)=true:=by simp[e]
     have j:=jd (show R=false by rw[<-v.o];simp[SH.aI,SH.nL,SH.fA,e]);clear e;go_upto_region 6 with fail;go_quiet(fail)
    rotate_left;focus
     have e0:0<t.length:=gq.2 e;have e1:((t.length:Int)==0)=false:=by simp;omega
     have e2:(t.length==0)=false:=by simp;omega
     have EE:=jd e;clear e;go_upto_region 6 with fail;obtain⟨B,ZG,ZB⟩:∃B:Nat,Hd (∀m,Calls Tryz.prog 29 #[.slice At t.length I,.int .i64 0] (Y.drewN m) fun e Z=>e=.returned (.int .i64 (B:Int))/\∃q,Z=Y.drewN q)/\Hd (Ch t 0 B):=by obtain⟨e',w',fr,⟨r,he,hr,hw⟩,-⟩:=kS t _ 0 Y (K.o.ext F.o) (by omega) [];refine⟨r,fun m=>(kS t _ 0 _ (K.o.ext (F.o.drewN m)) (by omega)).mono ?_,hr⟩;rintro e9 w9⟨r9,rfl,hr9,rfl⟩;exact⟨by rw[Fx hr9 hr],m,rfl⟩
     have J:=jd (ym ZB.o EE.o);rcases a:SH.fA t with _|_;focus
      have b2:(B !=t.length)=true:=by have:=J.o;rw[a,Er]at this;simp;omega
      have b1:((B:Int)!=t.length)=true:=by have:=J.o;rw[a,Er]at this;simp;omega
      have j:=jd (show R=false by rw[<-v.o];simp[SH.aI,SH.nL,a]);clear a;go_quiet((go_at_call 29;exact ZG.o _))
     rotate_left;focus
      have b2:(B !=t.length)=false:=by have:=J.o;rw[a,jf]at this;simp;omega
      have b1:((B:Int)!=t.length)=false:=by have:=J.o;rw[a,jf]at this;simp;omega
      have EM:=jd a;clear a;go_quiet((go_at_call 29;exact ZG.o _));by_cases C:f=[];rotate_left;focus
       have i0:0<f.length:=gq.2 C;have i1:(0:Int)<f.length:=by omega
       have j:=jd (show R=false by rw[<-v.o];simp[SH.aI,SH.nL,C]);clear C
      rotate_left;focus
       have i1:¬(0:Int)<f.length:=by simp[C]
       have i2:¬0<f.length:=by simp[C]
       have EI:=jd C;clear C;go_wp2_with fail;go_loop[6](fun i=>∃k:Nat,k<=f.length/\i=.int .i64 (k:Int)/\∀x∈f.take k,SH.Bd x=true)(fun i=>f.length-(intOf i).toNat);case atStart=>exact⟨0,aL _,rfl,by simp⟩
       obtain⟨k,hk,rfl,z⟩:=hrel;have qA:=jd z;clear z;by_cases hlt:k<f.length
       .exfalso;omega
       by_cases D:p=[];rotate_left;focus
        have f0:0<p.length:=gq.2 D;have f1:((p.length:Int)==0)=false:=by simp;omega
        have f2:(p.length==0)=false:=by simp;omega
        have j:=jd (show R=false by rw[<-v.o];simp[SH.aI,SH.nL,SH.dS,D]);clear D
       rotate_left;focus
        have f1p:((p.length:Int)==0)=true:=by simp[D]
        have f2p:(p.length==0)=true:=by simp[D]
        have Ep:=jd D;clear D;by_cases E:fo=[];rotate_left;focus
         have f0:0<fo.length:=gq.2 E;have f1:((fo.length:Int)==0)=false:=by simp;omega
         have f2:(fo.length==0)=false:=by simp;omega
         have j:=jd (show R=false by rw[<-v.o];simp[SH.aI,SH.nL,SH.dS,E]);clear E
        rotate_left;focus
         have WB:((fo.length:Int)==0)=true:=by simp[E]
         have WC:(fo.length==0)=true:=by simp[E]
         have WE:=jd E;clear E;have j:=jd (show R=(!s&&!u)by rw[<-v.o];simp[SH.aI,SH.nL,SH.dS,Ep.o,WE.o,EN.o,EM.o,EI.o];try omega);cases s<;>cases u;all_goals
          go_wp2_with fail;go_ret;exact⟨aH (by rw[j.o];first|done|rfl),F.o.drewN _⟩
    all_goals
     go_wp2_with fail;go_ret;exact⟨aH (by rw[j.o];first|done|rfl),F.o.drewN _⟩
 all_goals
  go_wp2_with fail;go_ret;exact⟨aH (by rw[j.o];first|done|rfl),F.o⟩
theorem Wz(d n:Int)(t:List Int)(f:List (List Int))(p:List Int)(fo:List FM.Form)(s u:Bool)(vt vi vp vf:Value)(w:World)(h:nS w ⟨6,d,n,t,f,p,fo,s,u⟩ vt vi vp vf)(hp:p.length<=1000000000)(G:t.length<=1000000000):Calls Tryz.prog 44 #[dK 6 d n vt vi vp vf s u] w (qL (.bool (SH.aI ⟨6,d,n,t,f,p,fo,s,u⟩)) w):=by
 have K:=jd h.text;have JH:=jd h.items;have Cb:=jd h.pat;have uh:=jd h.forms;have tN:=jd hp;have ZF:=jd G;obtain⟨At,I,L,M,N,O,P,cf,rfl,rfl,rfl,rfl,Q,S,T,U⟩:=h.shape;clear h hp G;dsimp only at K JH Cb uh Q S T U;obtain⟨R,V⟩:∃R,SH.aI ⟨6,d,n,t,f,p,fo,s,u⟩=R:=⟨_,rfl⟩;have v:=jd V;rw[V];clear V;dsimp only[dK];have F:=jd ((aa w).alloc (.cells #[.int .i64 6,.int .i64 d,.int .i64 n,.slice At t.length I,.slice L f.length M,.slice N p.length O,.slice P fo.length cf,.bool s,.bool u] 28));have X:=jd (aB w (.cells #[.int .i64 6,.int .i64 d,.int .i64 n,.slice At t.length I,.slice L f.length M,.slice N p.length O,.slice P fo.length cf,.bool s,.bool u] 28));obtain⟨nb,A⟩:∃nb,nb=w.heap.size:=⟨_,rfl⟩;rw[<-A]at X;have mD:=jd A;clear A;go_enter Tryz.func44,Tryz.ntmps44;go_upto_region 1 with fail;rw[<-mD.o];generalize w.alloc (.cells #[.int .i64 6,.int .i64 d,.int .i64 n,.slice At t.length I,.slice L f.length M,.slice N p.length O,.slice P fo.length cf,.bool s,.bool u] 28)=Y at F X⊢;obtain⟨d0,d1,d2,d3,d4,d5,d6,d7,d8⟩:=BH X.o;go_upto_region 4 with fail;by_cases q0:0<=n;rotate_left;focus
  have WZ:n<0:=by omega
  have j:=jd (show R=false by rw[<-v.o];simp[SH.aI, *])
 rotate_left;focus
  by_cases q1:n<=999;rotate_left;focus
   have W9:999<n:=by omega
   have j:=jd (show R=false by rw[<-v.o];simp[SH.aI, *])
  rotate_left;focus
   rcases H:(n !=0)with _|_;rotate_left;focus
    have e:n≠0:=by simpa using H
    have j:=jd (show R=false by rw[<-v.o];simp[SH.aI,SH.nL,e]);clear e
   rotate_left;focus
    have EN:=jd (show n=0 by simpa using H);by_cases e:t=[];focus
     have e1:((t.length:Int)==0)=true:=by simp[e]
     have e2:(t.length==0)=true:=by simp[e]
     have j:=jd (show R=false by rw[<-v.o];simp[SH.aI,SH.nL,SH.fA,e]);clear e;go_upto_region 6 with fail;go_quiet(fail)
    rotate_left;focus
     have e0:0<t.length:=gq.2 e;have e1:((t.length:Int)==0)=false:=by simp;omega
     have e2:(t.length==0)=false:=by simp;omega
     have EE:=jd e;clear e;go_upto_region 6 with fail;obtain⟨B,ZG,ZB⟩:∃B:Nat,Hd (∀m,Calls Tryz.prog 29 #[.slice At t.length I,.int .i64 0] (Y.drewN m) fun e Z=>e=.returned (.int .i64 (B:Int))/\∃q,Z=Y.drewN q)/\Hd (Ch t 0 B):=by obtain⟨e',w',fr,⟨r,he,hr,hw⟩,-⟩:=kS t _ 0 Y (K.o.ext F.o) (by omega) [];refine⟨r,fun m=>(kS t _ 0 _ (K.o.ext (F.o.drewN m)) (by omega)).mono ?_,hr⟩;rintro e9 w9⟨r9,rfl,hr9,rfl⟩;exact⟨by rw[Fx hr9 hr],m,rfl⟩
     have J:=jd (ym ZB.o EE.o);rcases a:SH.fA t with _|_;focus
      have b2:(B !=t.length)=true:=by have:=J.o;rw[a,Er]at this;simp;omega
      have b1:((B:Int)!=t.length)=true:=by have:=J.o;rw[a,Er]at this;simp;omega
      have j:=jd (show R=false by rw[<-v.o];simp[SH.aI,SH.nL,a]);clear a;go_quiet((go_at_call 29;exact ZG.o _))
     rotate_left;focus
      have b2:(B !=t.length)=false:=by have:=J.o;rw[a,jf]at this;simp;omega
      have b1:((B:Int)!=t.length)=false:=by have:=J.o;rw[a,jf]at this;simp;omega
      have EM:=jd a;clear a;go_quiet((go_at_call 29;exact ZG.o _));by_cases C:f=[];rotate_left;focus
       have i0:0<f.length:=gq.2 C;have i1:(0:Int)<f.length:=by omega
       have j:=jd (show R=false by rw[<-v.o];simp[SH.aI,SH.nL,C]);clear C
      rotate_left;focus
       have i1:¬(0:Int)<f.length:=by simp[C]
       have i2:¬0<f.length:=by simp[C]
       have EI:=jd C;clear C;go_wp2_with fail;go_loop[6](fun i=>∃k:Nat,k<=f.length/\i=.int .i64 (k:Int)/\∀x∈f.take k,SH.Bd x=true)(fun i=>f.length-(intOf i).toNat);case atStart=>exact⟨0,aL _,rfl,by simp⟩
       obtain⟨k,hk,rfl,z⟩:=hrel;have qA:=jd z;clear z;by_cases hlt:k<f.length
       .exfalso;omega
       by_cases D:p=[];rotate_left;focus
        have f0:0<p.length:=gq.2 D;have f1:((p.length:Int)==0)=false:=by simp;omega
        have f2:(p.length==0)=false:=by simp;omega
        have j:=jd (show R=false by rw[<-v.o];simp[SH.aI,SH.nL,SH.dS,D]);clear D
       rotate_left;focus
        have f1p:((p.length:Int)==0)=true:=by simp[D]
        have f2p:(p.length==0)=true:=by simp[D]
        have Ep:=jd D;clear D;by_cases E:fo=[];rotate_left;focus
         have f0:0<fo.length:=gq.2 E;have f1:((fo.length:Int)==0)=false:=by simp;omega
         have f2:(fo.length==0)=false:=by simp;omega
         have j:=jd (show R=false by rw[<-v.o];simp[SH.aI,SH.nL,SH.dS,E]);clear E
        rotate_left;focus
         have WB:((fo.length:Int)==0)=true:=by simp[E]
         have WC:(fo.length==0)=true:=by simp[E]
         have WE:=jd E;clear E;have j:=jd (show R=(!s&&!u)by rw[<-v.o];simp[SH.aI,SH.nL,SH.dS,Ep.o,WE.o,EN.o,EM.o,EI.o];try omega);cases s<;>cases u;all_goals
          go_wp2_with fail;go_ret;exact⟨aH (by rw[j.o];first|done|rfl),F.o.drewN _⟩
    all_goals
     go_wp2_with fail;go_ret;exact⟨aH (by rw[j.o];first|done|rfl),F.o.drewN _⟩
 all_goals
  go_wp2_with fail;go_ret;exact⟨aH (by rw[j.o];first|done|rfl),F.o⟩
theorem WA(d n:Int)(t:List Int)(f:List (List Int))(p:List Int)(fo:List FM.Form)(A B:Bool)(vt vi vp vf:Value)(w:World)(h:nS w ⟨7,d,n,t,f,p,fo,A,B⟩ vt vi vp vf)(hp:p.length<=1000000000)(G:t.length<=1000000000):Calls Tryz.prog 44 #[dK 7 d n vt vi vp vf A B] w (qL (.bool (SH.aI ⟨7,d,n,t,f,p,fo,A,B⟩)) w):=by
 have N:=jd h.text;have JH:=jd h.items;have Cb:=jd h.pat;have uh:=jd h.forms;have tN:=jd hp;have ZF:=jd G;obtain⟨At,I,O,P,Q,S,T,cf,rfl,rfl,rfl,rfl,U,V,X,Y⟩:=h.shape;clear h hp G;dsimp only at N JH Cb uh U V X Y;obtain⟨R,Z⟩:∃R,SH.aI ⟨7,d,n,t,f,p,fo,A,B⟩=R:=⟨_,rfl⟩;have v:=jd Z;rw[Z];clear Z;dsimp only[dK];have s:=jd ((aa w).alloc (.cells #[.int .i64 7,.int .i64 d,.int .i64 n,.slice At t.length I,.slice O f.length P,.slice Q p.length S,.slice T fo.length cf,.bool A,.bool B] 28));have j3:=jd (aB w (.cells #[.int .i64 7,.int .i64 d,.int .i64 n,.slice At t.length I,.slice O f.length P,.slice Q p.length S,.slice T fo.length cf,.bool A,.bool B] 28));obtain⟨nb,C⟩:∃nb,nb=w.heap.size:=⟨_,rfl⟩;rw[<-C]at j3;have mD:=jd C;clear C;go_enter Tryz.func44,Tryz.ntmps44;go_upto_region 1 with fail;rw[<-mD.o];generalize w.alloc (.cells #[.int .i64 7,.int .i64 d,.int .i64 n,.slice At t.length I,.slice O f.length P,.slice Q p.length S,.slice T fo.length cf,.bool A,.bool B] 28)=J at s j3⊢;obtain⟨d0,d1,d2,d3,d4,d5,d6,d7,d8⟩:=BH j3.o;go_upto_region 4 with fail;by_cases q0:0<=n;rotate_left
 .have WZ:n<0:=by omega
  have j:=jd (show R=false by rw[<-v.o];simp[SH.aI, *]);go_wp2_with fail;go_ret;exact⟨aH (by rw[j.o];first|done|rfl),s.o⟩
 by_cases q1:n<=999;rotate_left
 .have W9:999<n:=by omega
  have j:=jd (show R=false by rw[<-v.o];simp[SH.aI, *]);go_wp2_with fail;go_ret;exact⟨aH (by rw[j.o];first|done|rfl),s.o⟩
 rcases H:(n !=0)with _|_;rotate_left
 .have e:n≠0:=by simpa using H
  have j:=jd (show R=false by rw[<-v.o];simp[SH.aI,SH.nL,e]);clear e;go_wp2_with fail;go_ret;exact⟨aH (by rw[j.o];first|done|rfl),s.o⟩
 have EN:=jd (show n=0 by simpa using H);by_cases e:t=[]
 .have e1:((t.length:Int)==0)=true:=by simp[e]
  have e2:(t.length==0)=true:=by simp[e]
  have j:=jd (show R=false by rw[<-v.o];simp[SH.aI,SH.nL,SH.fA,e]);clear e;go_upto_region 6 with fail;go_quiet(fail);go_wp2_with fail;go_ret;exact⟨aH (by rw[j.o];first|done|rfl),s.o.drewN _⟩
 have e0:0<t.length:=gq.2 e;have e1:((t.length:Int)==0)=false:=by simp;omega
 have e2:(t.length==0)=false:=by simp;omega
 have EE:=jd e;clear e;go_upto_region 6 with fail;obtain⟨D,ZG,ZB⟩:∃D:Nat,Hd (∀m,Calls Tryz.prog 29 #[.slice At t.length I,.int .i64 0] (J.drewN m) fun e w''=>e=.returned (.int .i64 (D:Int))/\∃q,w''=J.drewN q)/\Hd (Ch t 0 D):=by obtain⟨e',w',fr,⟨r,he,hr,hw⟩,-⟩:=kS t _ 0 J (N.o.ext s.o) (by omega) [];refine⟨r,fun m=>(kS t _ 0 _ (N.o.ext (s.o.drewN m)) (by omega)).mono ?_,hr⟩;rintro e9 w9⟨r9,rfl,hr9,rfl⟩;exact⟨by rw[Fx hr9 hr],m,rfl⟩
 have K:=jd (ym ZB.o EE.o);rcases a:SH.fA t with _|_
 .have b2:(D !=t.length)=true:=by have:=K.o;rw[a,Er]at this;simp;omega
  have b1:((D:Int)!=t.length)=true:=by have:=K.o;rw[a,Er]at this;simp;omega
  have j:=jd (show R=false by rw[<-v.o];simp[SH.aI,SH.nL,a]);clear a;go_quiet((go_at_call 29;exact ZG.o _));go_wp2_with fail;go_ret;exact⟨aH (by rw[j.o];first|done|rfl),s.o.drewN _⟩
 have b2:(D !=t.length)=false:=by have:=K.o;rw[a,jf]at this;simp;omega
 have b1:((D:Int)!=t.length)=false:=by have:=K.o;rw[a,jf]at this;simp;omega
 have EM:=jd a;clear a;go_quiet((go_at_call 29;exact ZG.o _));by_cases E:f=[];rotate_left
 .have i0:0<f.length:=gq.2 E;have i1:(0:Int)<f.length:=by omega
  have j:=jd (show R=false by rw[<-v.o];simp[SH.aI,SH.nL,E]);clear E;go_wp2_with fail;go_ret;exact⟨aH (by rw[j.o];first|done|rfl),s.o.drewN _⟩
 have i1:¬(0:Int)<f.length:=by simp[E]
 have i2:¬0<f.length:=by simp[E]
 have EI:=jd E;clear E;go_wp2_with fail;go_loop[6](fun i=>∃k:Nat,k<=f.length/\i=.int .i64 (k:Int)/\∀x∈f.take k,SH.Bd x=true)(fun i=>f.length-(intOf i).toNat);case atStart=>exact⟨0,aL _,rfl,by simp⟩
 obtain⟨k,hk,rfl,z⟩:=hrel;have qA:=jd z;clear z;by_cases hlt:k<f.length
 .exfalso;omega
 have L:=jd (fun W(hW:Ext w W)=>Fp p _ W (Cb.o.ext hW) tN.o);have HFM:=jd (fun W(hW:Ext w W)=>sI fo _ W (uh.o.ext hW));rcases F:SH.lU p with _|_
 .rw[F]at L;have j:=jd (show R=false by rw[<-v.o];simp[SH.aI,SH.nL,F]);clear F;go_wp2_with(go_at_call 67;refine(L.o _ (s.o.drewN _)).mono ?_;rintro e9 w9⟨rfl,u⟩;have M:=jd u;clear u);go_ret;exact⟨aH (by rw[j.o];first|done|rfl),(s.o.drewN _).trans M.o⟩
 rw[F]at L;have j:=jd (show R=FM.may fo by rw[<-v.o];simp[SH.aI,SH.nL,F,EN.o,EM.o,EI.o];try omega);clear F;go_wp2_with(first|(go_at_call 67;refine(L.o _ (s.o.drewN _)).mono ?_;rintro e9 w9⟨rfl,u⟩;have M:=jd ((s.o.drewN _).trans u);have d6:=u.cell (show(J.drewN _).cell? _=_ from d6);clear u)|(go_at_call 68;refine(HFM.o _ M.o).mono ?_;rintro e9 Vn⟨rfl,u⟩;have abd:=jd (M.o.trans u);clear u));go_ret;exact⟨aH (by rw[j.o];first|done|rfl),abd.o⟩
theorem SA(x:SH.dC)(vt vi vp vf:Value)(w:World)(h:nS w x vt vi vp vf)(f:x.pat.length<=1000000000)(a:x.text.length<=1000000000):Calls Tryz.prog 44 #[Gn x vt vi vp vf] w (qL (.bool (SH.aI x)) w):=by
 obtain⟨k,d,n,t,i,p,fo,j,m⟩:=x;by_cases e:k<0\/7<k
 .exact SG k e d n t i p fo j m _ _ _ _ w h f a
 obtain e|e|e|e|e|e|e|e:k=0\/k=1\/k=2\/k=3\/k=4\/k=5\/k=6\/k=7:=by omega
 .subst e;exact Wt d n t i p fo j m _ _ _ _ w h f a
 .subst e;exact Wu d n t i p fo j m _ _ _ _ w h f a
 .subst e;exact Wv d n t i p fo j m _ _ _ _ w h f a
 .subst e;exact Ww d n t i p fo j m _ _ _ _ w h f a
 .subst e;exact Wx d n t i p fo j m _ _ _ _ w h f a
 .subst e;exact Wy d n t i p fo j m _ _ _ _ w h f a
 .subst e;exact Wz d n t i p fo j m _ _ _ _ w h f a
 .subst e;exact WA d n t i p fo j m _ _ _ _ w h f a
end Go.Proofs.YtcogknbbbjnaiaaGreatDoor
