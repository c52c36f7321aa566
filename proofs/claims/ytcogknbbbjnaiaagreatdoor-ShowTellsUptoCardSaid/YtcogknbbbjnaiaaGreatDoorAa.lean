/- For ShowTells: what the texts XPgY XPgA XCdO of wip/tpl say. -/
import Derived.Test.YtcogknbbbjnaiaaGreatDoorX
import Derived.Test.YtcogknbbbjnaiaaGreatDoorZ
set_option maxRecDepth 100000
set_option maxHeartbeats 8000000
namespace Go.Proofs.YtcogknbbbjnaiaaGreatDoor
section
open Go.RowKit
def KOk(x:RX.aA)(K:List (List RX.aA)):Prop:=x.kind=0\/(x.kind=1/\K≠[])\/(x.kind=2/\0<x.set.length/\x.set.length<=1000000)\/x.kind=3\/x.kind=4\/(x.kind=5/\K≠[]/\0<=x.lo/\x.lo<=1000)\/
 (x.kind=6/\K≠[]/\0<=x.lo/\x.lo<=1000000/\(x.hi<0\/(x.lo<=x.hi/\x.hi<=1000000)))
theorem Gc{α β:Type}(f:α->β)(l:List α)(k:Nat)(h:k<l.length):(l.take k).map f++[f l[k]]=(l.take (k+1)).map f:=by rw[kE h,jS];rfl
theorem Et(g:Nat)(x:RX.aA)(r:List RX.aA)(T:List RX.aA->PG.Part)(v:Value)(w:World)(hs:dI 0 0 w v (x::r))(hl:(x::r).length<=100000000)(hT:∀kid∈PG.qa r,PG.Ok g (T kid)/\∀(v':Value)(w':World),dI 0 0 w' v' kid->Calls Tryz.prog 117 #[v'] w' (lh (Nw w') (T kid) w'))(hk:KOk x (PG.qa r)):Calls Tryz.prog 117 #[v] w (lh (Nw w) (PG.iV x ((PG.qa r).map T)) w):=by
 obtain⟨A,c,rfl,hlc,hcc⟩:=hs.form;obtain⟨g0,o0,cs,rfl,hcr,a⟩:=hs.at_ (k:=0) (by simp);obtain⟨A1,c1,rfl⟩:=hcr.cells;simp only[Nat.zero_mul,fB,List.getElem_cons_zero]at a hcr;have d0:=a 0 _ rfl;have d1:=a 1 _ rfl;have d2:=a 2 _ rfl;have d3:=a 3 _ rfl;have d4:=a 4 _ rfl;have d5:=a 5 _ rfl;have d6:=a 6 _ rfl;rw[fB]at d0;have hg0:=iP w ⟨g0,o0,none⟩ d0;obtain⟨sv,hsv,hset⟩:=hcr;simp only[List.cons.injEq,true_and,and_true]at hsv;subst hsv;have acb:=jd hset;have HS:=jd hs;have zW:=jd (fun w'(h:dI 0 0 w' (.slice (some ⟨g0,o0,none⟩) (x::r).length c) (x::r))=>RO (x::r) _ w' h hl);simp only[List.drop_one,List.tail_cons]at zW;have hKL:(PG.qa r).length<=100000000:=by
  have Z:∀(n:Nat)(q:List RX.aA),(PG.kids n q).length<=q.length:=by
   intro n;induction n with
   |zero=>intro q;simp[PG.kids]
   |succ n ih=>
    intro q;cases q with
    |nil=>simp[PG.kids]
    |cons y q=>rw[PG.kids,aF,aF];have:=ih (q.dropWhile fun z=>decide (y.deep<z.deep));have:=(List.dropWhile_sublist (l:=q) (fun z:RX.aA=>decide (y.deep<z.deep))).length_le;omega
  have:=Z r.length r;rw[aF]at hl;exact aG this (by omega)
 obtain⟨K,hK⟩:∃K,PG.qa r=K:=⟨_,rfl⟩;rw[hK]at hT hk zW hKL⊢;have HT:=jd hT;have HKO:=jd hk;have hpos:0<(x::r).length:=by simp
 obtain⟨L,hL⟩:∃L,(x::r).length=L:=⟨_,rfl⟩;obtain⟨R,hR⟩:∃R,PG.iV x (K.map T)=R:=⟨_,rfl⟩;rw[hR];have V:=jd hR;have HS:=jd (show dI 0 0 w (.slice (some ⟨g0,o0,none⟩) L c) (x::r)by rw[<-hL];exact HS.o);rw[hL]at zW hlc hl hpos⊢;clear hs hT hk hK hL hR a hset;go_enter Tryz.func117,Tryz.ntmps117;go_upto_region 3 with fail;have hE1:=((aa w).alloc (.cells #[.slice none 0 0,.int .i64 0] 150)).alloc (.cells #[.int .i64 x.kind,.int .i64 x.deep,.int .i64 x.lo,.int .i64 x.hi,.bool x.lazy,.bool x.neg,.slice A1 x.set.length c1] 126);have zm:=jd (show FU w w.heap.size (w.heap.size+1) #[.int .i64 x.kind,.int .i64 x.deep,.int .i64 x.lo,.int .i64 x.hi,.bool x.lazy,.bool x.neg,.slice A1 x.set.length c1] (.slice none 0 0) [] _ from⟨hE1,az _,Nat.lt_succ_self _,lq _ _ _,ll _ _ _,dO⟩);have hw1:((w.alloc (.cells #[.slice none 0 0,.int .i64 0] 150)).alloc (.cells #[.int .i64 x.kind,.int .i64 x.deep,.int .i64 x.lo,.int .i64 x.hi,.bool x.lazy,.bool x.neg,.slice A1 x.set.length c1] 126)).heap.size=w.heap.size+1+1:=by simp
 have HW1:=jd hw1;clear d0 d1 d2 d3 d4 d5 d6 hE1 hg0 hw1;generalize(w.alloc (.cells #[.slice none 0 0,.int .i64 0] 150)).alloc (.cells #[.int .i64 x.kind,.int .i64 x.deep,.int .i64 x.lo,.int .i64 x.hi,.bool x.lazy,.bool x.neg,.slice A1 x.set.length c1] 126)=w1 at zm HW1⊢;generalize w.heap.size+1=H at zm HW1⊢;generalize w.heap.size=X at zm⊢;have qH:=jd (bH HS.o (dE _) (au zm.o.ext) (au zm.o.ext));go_upto_region 4 with(go_at_call 132;refine(zW.o _ qH.o).mono ?_;rintro e w2⟨hx2,Ak,ck,rfl,hks⟩;have qQ:=jd (zm.o.aj hx2);have jZ:=jd hx2;have TL:=jd hks;have hkf:=hks.form;clear hx2 hks);go_loopw[4,13](fun v4 x9 wr=>∃k:Nat,k<=K.length/\x9=.int .i64 (k:Int)/\Ext w1 wr/\aV [99] w2 wr/\FU w X H #[.int .i64 x.kind,.int .i64 x.deep,.int .i64 x.lo,.int .i64 x.hi,.bool x.lazy,.bool x.neg,.slice A1 x.set.length c1] v4 ((K.take k).map T) wr)(fun _ x9 _=>K.length-(intOf x9).toNat);case atStart=>exact⟨0,aL _,rfl,jZ.o,aV.refl _ _,by simpa using qQ.o⟩
 case round=>
  obtain⟨k,hk,rfl,hx,hkt,hm⟩:=hrel;obtain⟨i,hps⟩:∃i,(K.take k).map T=i:=⟨_,rfl⟩;have hpl:i.length<=100000000:=by rw[<-hps,fP,kg];omega
  rw[hps]at hm;have HX:=jd hx;have Xw:=jd hkt;have d:=jd hm;have TM:=jd hps;obtain⟨Al,U,rfl,hcl,-⟩:=hm.own.form;have htb:=ag hm.top;clear hx hkt hm hps;by_cases hlt:k<K.length
  .obtain⟨g1,o1,cs,rfl,⟨vk,rfl,hre⟩,a⟩:=(bH TL.o (EF w1 []) (fun _ _ _ h=>by cases h) Xw.o).at_ hlt;have e0:wr.cell? ⟨g1,o1+k,none⟩=some vk:=by have:=a 0 _ rfl;simpa using this
   have hT1:=HT.o K[k] (bK hlt);have hEr:=HX.o;have aao:=jd (hT1.2 vk wr (bH hre (dE _) (au hEr) (au hEr)));have uw:=jd (show i++[T K[k]]=(K.take (k+1)).map T by rw[<-TM.o];exact Gc T K k hlt);obtain⟨Av,cv,rfl,-,-⟩:=hre.form;clear a hre hT1 hEr;generalize T K[k]=p at aao uw;generalize K[k].length=nk at e0 aao;go_upto_region 6 with fail;have adT:i.length<=1000000000:=by omega
   go_wp2_with(first|(go_at_call 117;refine aao.o.mono ?_;rintro e w4⟨hx4,A4,c4,rfl,hl4⟩;have zJ:=jd (d.o.aj hx4);have jY:=jd (HX.o.trans hx4);have Gd:=jd (Xw.o.trans (au hx4));have Nq:=jd (show Pc (Nx w (.slice Al i.length U)) w4 w4 [.slice A4 p.l.length c4,.int .i64 (p.n:Int)] p from⟨_,_,rfl,d.o.part hl4⟩);have hB4:H+1<=w4.heap.size:=ag zJ.o.top;clear hx4 hl4)|(at_builtin;refine U7 Tryz.underlying166 G6 rfl (by decide) (by decide) (KX _ w4 []) (by simp) rfl _ _ rfl (H+1) _ i p [.slice A4 p.l.length c4,.int .i64 (p.n:Int)] 150 zJ.o.own Nq.o rfl (by simp[Value.oneCell']) rfl w4.heap.size rfl rfl adT hB4 ?_;intro gg cap w5 Z h2 h3;have HF:=jd (zJ.o.app Z h2 h3);have rT:=jd ((jY.o.alloc _).grown h2 (fun b hb=>by have:=(zJ.o.own.lt b hb).1;have:=HW1.o;omega));have X9:=jd ((Gd.o.trans (au ((aa w4).alloc _))).trans (kF h2 (fun b hb=>by obtain⟨cur,hh⟩:=zJ.o.own.type b hb;exact⟨cur,_,((aa w4).alloc _).heap hh,by decide⟩)));clear Z h2 h3));go_roundw;case rel=>exact⟨k+1,by omega,by go_num,rT.o,X9.o,by rw[<-uw.o];exact HF.o⟩
   case measure=>simp[intOf];omega
  have U3:=jd (show i=K.map T by rw[<-TM.o,pU (by omega)]);have V:=jd (show PG.iV x i=R by rw[U3.o];exact V.o);have HPO:=jd (show∀p∈i,PG.Ok g p by intro p hp;rw[U3.o]at hp;obtain⟨kid,hk1,rfl⟩:=xu.1 hp;exact(HT.o kid hk1).1);have Cv:=jd d.o.slp;rcases HKO.o with t|⟨t,I⟩|⟨t,Z,h2⟩|t|t|⟨t,I,Z,h2⟩|⟨t,I,Z,h2,h3⟩;focus
   have t0:=d.o.cell (j:=0) (u:=.int .i64 0) (by rw[<-t];rfl);have E:=jd (mX i _ wr Cv.o (fun p hp=>kN (HPO.o p hp)));rw[show PG.row i=R by rw[<-V.o];unfold PG.iV;rw[av t]]at E;clear t;go_wp2_with(go_at_call 115;refine E.o.mono ?_;rintro e w9⟨P,A9,c9,rfl,C⟩;have yK:=jd C;have f:=jd (d.o.aj P);have r0:=f.o.r0;have r1:=f.o.r1;have f0:=f.o.fr 0;have f1:=f.o.fr 1;clear C)
  rotate_left;focus
   have t0:=d.o.cell (j:=0) (u:=.int .i64 1) (by rw[<-t];rfl);have E:=jd (KZ g i _ wr Cv.o HPO.o (by rw[U3.o];intro e;rw[List.map_eq_nil_iff]at e;exact I e) (by omega));rw[show PG.either i=R by rw[<-V.o];unfold PG.iV;rw[ae (by omega),av t]]at E;clear t I;go_wp2_with(go_at_call 133;refine E.o.mono ?_;rintro e w9⟨P,A9,c9,rfl,C⟩;have yK:=jd C;have f:=jd (d.o.aj P);have r0:=f.o.r0;have r1:=f.o.r1;have f0:=f.o.fr 0;have f1:=f.o.fr 1;clear C)
  rotate_left;focus
   have t0:=d.o.cell (j:=0) (u:=.int .i64 2) (by rw[<-t];rfl);have t5:=d.o.cell (j:=5) rfl;have t6:=d.o.cell (j:=6) rfl;have s:=jd (show PG.one [⟨0,0,0,x.neg,x.set⟩]=R by rw[<-V.o];unfold PG.iV;rw[ae (by omega),ae (by omega),av t]);have K3:=jd (fun J B(h:lT (Nx w (.slice Al i.length U)) B J [⟨0,0,0,x.neg,x.set⟩])=>mW [⟨0,0,0,x.neg,x.set⟩] J B h);rw[s.o]at K3;have HEW:=jd d.o.ext;have Ya:=jd (bH acb.o (dQ []) (fun _ _ _ h=>by cases h) (au d.o.ext));have hA1:A1≠none:=by intro e;subst e;have:=(aT.none_ acb.o).1;rw[this]at Z;simp at Z
   obtain⟨ad,rfl⟩:=Option.ne_none_iff_exists'.1 hA1;have HAC:=jd (aT.add Ya.o);have Y:X≠H:=Nat.ne_of_lt d.o.lt;have htr:H≠X:=Y.symm;generalize x.set=set at*;generalize x.neg=neg at*;clear t hA1;go_upto_region 14 with fail;go_region_held3(fun w'=>w'.cell? ⟨H,5,none⟩=some (.bool neg)/\w'.cell? ⟨H,6,none⟩=some (.slice (some ad) set.length c1))
    (first|go_keep|(go_split_ands;refine⟨?_,?_⟩<;>(refine Ext.cell (by assumption) ?_;assumption)))
    (first|(refine U8 rfl _ _ (by rfl) ad set c1 (fun j y hy=>HAC.o j y hy) Z (by omega) (by rfl) (by rfl) ?_;intro gg cap w5 h5 hx5;have yz:=jd h5;have vK:=jd (d.o.aj (((aa _).drew).trans hx5));clear h5)|(go_at_call 118;refine(K3.o _ _ (kP (S:=Nx w (.slice Al i.length U)) 0 0 0 neg set vK.o.Ha rfl (yz.o _ d.o.Ha))).mono ?_;rintro e w9⟨P,A9,c9,rfl,C⟩;have yK:=jd C;have f:=jd (vK.o.aj (((aa _).alloc _).trans P));have r0:=f.o.r0;have r1:=f.o.r1;have f0:=f.o.fr 0;have f1:=f.o.fr 1;clear C));go_wp2_with fail
  rotate_left;focus
   have t0:=d.o.cell (j:=0) (u:=.int .i64 3) (by rw[<-t];rfl);have s:=jd (show PG.one [⟨1,0,0,false,[]⟩]=R by rw[<-V.o];unfold PG.iV;rw[ae (by omega),ae (by omega),ae (by omega),av t]);have K3:=jd (fun J B(h:lT (Nx w (.slice Al i.length U)) B J [⟨1,0,0,false,[]⟩])=>mW [⟨1,0,0,false,[]⟩] J B h);rw[s.o]at K3;clear t;go_wp2_with(go_at_call 118;refine(K3.o _ _ (kP (S:=Nx w (.slice Al i.length U)) 1 0 0 false [] d.o.Ha rfl nz.eU)).mono ?_;rintro e w9⟨P,A9,c9,rfl,C⟩;have yK:=jd C;have f:=jd (d.o.aj (((aa _).alloc _).trans P));have r0:=f.o.r0;have r1:=f.o.r1;have f0:=f.o.fr 0;have f1:=f.o.fr 1;clear C)
  rotate_left;focus
   have t0:=d.o.cell (j:=0) (u:=.int .i64 4) (by rw[<-t];rfl);have s:=jd (show PG.one [⟨2,0,0,false,[]⟩]=R by rw[<-V.o];unfold PG.iV;rw[ae (by omega),ae (by omega),ae (by omega),ae (by omega),av t]);have K3:=jd (fun J B(h:lT (Nx w (.slice Al i.length U)) B J [⟨2,0,0,false,[]⟩])=>mW [⟨2,0,0,false,[]⟩] J B h);rw[s.o]at K3;clear t;go_wp2_with(go_at_call 118;refine(K3.o _ _ (kP (S:=Nx w (.slice Al i.length U)) 2 0 0 false [] d.o.Ha rfl nz.eU)).mono ?_;rintro e w9⟨P,A9,c9,rfl,C⟩;have yK:=jd C;have f:=jd (d.o.aj (((aa _).alloc _).trans P));have r0:=f.o.r0;have r1:=f.o.r1;have f0:=f.o.fr 0;have f1:=f.o.fr 1;clear C)
  rotate_left;focus
   obtain⟨p,rest,D⟩:∃p rest,i=p::rest:=by
    cases hq:i with
    |nil=>exact absurd (by rw[U3.o,List.map_eq_nil_iff]at hq;exact hq) I
    |cons p rest=>exact⟨p,rest,rfl⟩
   have Q:=HPO.o p (by rw[D];simp);have Gf:=jd Q;have hpn:=(kN Q).le;obtain⟨F,op,cp,Ap,ap,hv4,p0,p1,U9⟩:=Dg.head (by rw[<-D];exact Cv.o);injection hv4 with hv1 hv2 hv3;subst hv1 hv3;have tN:=jd U9;have adU:0<i.length:=by rw[D];simp
   have adV:(0:Int)<(i.length:Int):=by omega
   have Y:X≠H:=Nat.ne_of_lt d.o.lt;have htr:H≠X:=Y.symm;have hgb:F≠X:=fun e=>by have:=(d.o.own.lt F rfl).1;have:=d.o.lt;omega
   have hbg:X≠F:=hgb.symm;have K4:=jd (show i.headD ⟨[],0⟩=p by rw[D];rfl);clear D hv2 U9 Q I;have t0:=d.o.cell (j:=0) (u:=.int .i64 5) (by rw[<-t];rfl);have t2:=d.o.cell (j:=2) rfl;by_cases hlo:0<x.lo;focus
    have hd:decide ((0:Int)<x.lo)=true:=by simp;omega
    have s:=jd (show PG.row [PG.save (2*x.lo),p,PG.save (2*x.lo+1)]=R by rw[<-V.o];unfold PG.iV;rw[ae (by omega),ae (by omega),ae (by omega),ae (by omega),ae (by omega),av t,av hlo,K4.o]);have HA:=jd (vP (2*x.lo));have HB:=jd (vP (2*x.lo+1));have E:=jd (fun J B(h:Dg (Nx w (.slice (some ⟨F,op,none⟩) i.length U)) B J [PG.save (2*x.lo),p,PG.save (2*x.lo+1)])=>mX _ J B h (EB zf (kN Gf.o) zf));rw[s.o]at E;obtain⟨y1,hy1⟩:∃y,2*x.lo=y:=⟨_,rfl⟩;rw[hy1]at HA HB E;obtain⟨y2,hy2⟩:∃y,y1+1=y:=⟨_,rfl⟩;rw[hy2]at HB E;have s1:IntKind.i64.wrap (2*x.lo)=y1:=by rw[<-hy1];exact jA _ (by omega)
    have s2:IntKind.i64.wrap (y1+1)=y2:=by rw[<-hy2];exact jA _ (by omega)
    obtain⟨q1,M⟩:∃q,PG.save y1=q:=⟨_,rfl⟩;obtain⟨q2,N⟩:∃q,PG.save y2=q:=⟨_,rfl⟩;rw[M]at HA E;rw[N]at HB E;clear M N t s hy1 hy2;go_upto_region 21 with fail;go_region_held3(fun w'=>w'.cell? ⟨H,2,none⟩=some (.int .i64 x.lo)/\w'.cell? ⟨F,op,none⟩=some (.slice Ap p.l.length ap)/\w'.cell? ⟨F,op+1,none⟩=some (.int .i64 (p.n:Int)))
     (first|go_keep|(go_split_ands;refine⟨?_,?_,?_⟩<;>(refine Ext.cell (by assumption) ?_;assumption)))
     (first|(go_at_call 116;refine(HA.o _).mono ?_;rintro e w6⟨O,A6,c6,rfl,FR⟩;have yw:=jd (d.o.aj (((aa _).drew).trans O));have Jt:=jd ((d.o.aj ((aa _).drew)).part FR);have I7:=jd (tN.o.ext (((aa _).drew).trans O));clear FR)|(go_at_call 116;refine(HB.o _).mono ?_;rintro e w7⟨G,A7,c7,rfl,IK⟩;have Zk:=jd (yw.o.aj G);have tq:=jd (yw.o.part IK);have KO:=jd (Jt.o.ext G);have RP:=jd (I7.o.ext G);clear IK)|(go_at_call 115;refine(E.o _ _ (NA rfl KO.o RP.o tq.o)).mono ?_;rintro e w9⟨P,A9,c9,rfl,C⟩;have yK:=jd C;have f:=jd (Zk.o.aj (((aa _).alloc _).trans P));have r0:=f.o.r0;have r1:=f.o.r1;have f0:=f.o.fr 0;have f1:=f.o.fr 1;clear C));go_wp2_with fail
   rotate_left
   .have hd:decide ((0:Int)<x.lo)=false:=by simp;omega
    have s:=jd (show R=p by rw[<-V.o];unfold PG.iV;rw[ae (by omega),ae (by omega),ae (by omega),ae (by omega),ae (by omega),av t,ae hlo,K4.o]);have r0:=d.o.r0;have r1:=d.o.r1;have f0:=d.o.fr 0;have f1:=d.o.fr 1;clear t;go_wp2_with fail;rw[s.o];refine bC (v:=.agg #[.slice Ap p.l.length ap,.int .i64 (p.n:Int)]) (by simp[results,Tryz.results117,go_sem,r0,r1]) rfl ?_;exact l6 d.o.ext d.o.lo d.o.res (tN.o.wk fun _ h=>h.1)
  rotate_left;focus
   obtain⟨p,rest,D⟩:∃p rest,i=p::rest:=by
    cases hq:i with
    |nil=>exact absurd (by rw[U3.o,List.map_eq_nil_iff]at hq;exact hq) I
    |cons p rest=>exact⟨p,rest,rfl⟩
   have Q:=HPO.o p (by rw[D];simp);have Gf:=jd Q;have hpn:=(kN Q).le;obtain⟨F,op,cp,Ap,ap,hv4,p0,p1,U9⟩:=Dg.head (by rw[<-D];exact Cv.o);injection hv4 with hv1 hv2 hv3;subst hv1 hv3;have tN:=jd U9;have adU:0<i.length:=by rw[D];simp
   have adV:(0:Int)<(i.length:Int):=by omega
   have Y:X≠H:=Nat.ne_of_lt d.o.lt;have htr:H≠X:=Y.symm;have hgb:F≠X:=fun e=>by have:=(d.o.own.lt F rfl).1;have:=d.o.lt;omega
   have hbg:X≠F:=hgb.symm;have K4:=jd (show i.headD ⟨[],0⟩=p by rw[D];rfl);clear D hv2 U9 Q I;obtain⟨m,hm⟩:∃m:Nat,x.lo=(m:Int):=⟨x.lo.toNat,by omega⟩;have hm6:m<=1000000:=by omega
   have t0:=d.o.cell (j:=0) (u:=.int .i64 6) (by rw[<-t];rfl);have t2:=d.o.cell (j:=2) (u:=.int .i64 (m:Int)) (by rw[<-hm];rfl);have t3:=d.o.cell (j:=3) rfl;have t4:=d.o.cell (j:=4) rfl;by_cases hhi:x.hi<0;focus
    have hd:decide (x.hi<0)=true:=by simp;omega
    have s:=jd (show PG.row [PG.many p m,PG.loop p x.lazy]=R by rw[<-V.o];unfold PG.iV;rw[ae (by omega),ae (by omega),ae (by omega),ae (by omega),ae (by omega),ae (by omega),av hhi,K4.o,show x.lo.toNat=m by omega]);have HA:=jd (fun B h8=>G7 (S:=Nx w (.slice (some ⟨F,op,none⟩) i.length U)) p m Ap ap B h8 (kN Gf.o) (by omega));have HB:=jd (fun B h8=>RN (S:=Nx w (.slice (some ⟨F,op,none⟩) i.length U)) p x.lazy Ap ap B h8 (kN Gf.o));have E:=jd (fun J B(h:Dg (Nx w (.slice (some ⟨F,op,none⟩) i.length U)) B J [PG.many p m,PG.loop p x.lazy])=>mX _ J B h (KV (kN (PG.Dh Gf.o m)) (kN (PG.zk Gf.o x.lazy))));rw[s.o]at E;obtain⟨q1,M⟩:∃q,PG.many p m=q:=⟨_,rfl⟩;obtain⟨q2,N⟩:∃q,PG.loop p x.lazy=q:=⟨_,rfl⟩;rw[M]at HA E;rw[N]at HB E;have Ql:=jd (tN.o.ext ((aa _).drew));clear M N t s;go_upto_region 24 with fail;go_region_held3(fun w'=>w'.cell? ⟨H,2,none⟩=some (.int .i64 (m:Int))/\w'.cell? ⟨F,op,none⟩=some (.slice Ap p.l.length ap)/\w'.cell? ⟨F,op+1,none⟩=some (.int .i64 (p.n:Int))/\w'.cell? ⟨H,4,none⟩=some (.bool x.lazy))
     (first|go_keep|(go_split_ands;refine⟨?_,?_,?_,?_⟩<;>(refine Ext.cell (by assumption) ?_;assumption)))
     (first|(go_at_call 134;refine(HA.o _ Ql.o).mono ?_;rintro e w6⟨O,A6,c6,rfl,FR⟩;have yw:=jd (d.o.aj (((aa _).drew).trans O));have Jt:=jd FR;have I7:=jd (Ql.o.ext O);clear FR)|(go_at_call 135;refine(HB.o _ I7.o).mono ?_;rintro e w7⟨G,A7,c7,rfl,IK⟩;have Zk:=jd (yw.o.aj G);have tq:=jd IK;have KO:=jd (Jt.o.ext G);clear IK)|(go_at_call 115;refine(E.o _ _ (U5 rfl KO.o tq.o)).mono ?_;rintro e w9⟨P,A9,c9,rfl,C⟩;have yK:=jd C;have f:=jd (Zk.o.aj (((aa _).alloc _).trans P));have r0:=f.o.r0;have r1:=f.o.r1;have f0:=f.o.fr 0;have f1:=f.o.fr 1;clear C));go_wp2_with fail
   rotate_left;focus
    have hd:decide (x.hi<0)=false:=by simp;omega
    obtain⟨n,hn⟩:∃n:Nat,x.hi-x.lo=(n:Int):=⟨(x.hi-x.lo).toNat,by omega⟩;have s1:IntKind.i64.wrap (x.hi-x.lo)=(n:Int):=by rw[hn];exact jA _ (by omega)
    have s2:IntKind.i64.wrap (x.hi-(m:Int))=(n:Int):=by rw[<-hm];exact s1
    have s3:x.hi-(m:Int)=(n:Int):=by omega
    have s4:IntKind.i64.wrap (n:Int)=(n:Int):=jA _ (by omega);have s:=jd (show PG.row [PG.many p m,PG.maybe p n x.lazy]=R by rw[<-V.o];unfold PG.iV;rw[ae (by omega),ae (by omega),ae (by omega),ae (by omega),ae (by omega),ae (by omega),ae hhi,K4.o,show x.lo.toNat=m by omega,show(x.hi-x.lo).toNat=n by omega]);have HA:=jd (fun B h8=>G7 (S:=Nx w (.slice (some ⟨F,op,none⟩) i.length U)) p m Ap ap B h8 (kN Gf.o) (by omega));have HB:=jd (fun B h8=>ND (S:=Nx w (.slice (some ⟨F,op,none⟩) i.length U)) g p n x.lazy Ap ap B h8 Gf.o (by omega));have E:=jd (fun J B(h:Dg (Nx w (.slice (some ⟨F,op,none⟩) i.length U)) B J [PG.many p m,PG.maybe p n x.lazy])=>mX _ J B h (KV (kN (PG.Dh Gf.o m)) (kN (PG.vQ Gf.o x.lazy _ _ PG.I6))));rw[s.o]at E;obtain⟨q1,M⟩:∃q,PG.many p m=q:=⟨_,rfl⟩;obtain⟨q2,N⟩:∃q,PG.maybe p n x.lazy=q:=⟨_,rfl⟩;rw[M]at HA E;rw[N]at HB E;have Ql:=jd (tN.o.ext ((aa _).drew));clear M N t s hn;go_upto_region 25 with fail;go_region_held3(fun w'=>w'.cell? ⟨H,2,none⟩=some (.int .i64 (m:Int))/\w'.cell? ⟨F,op,none⟩=some (.slice Ap p.l.length ap)/\w'.cell? ⟨F,op+1,none⟩=some (.int .i64 (p.n:Int))/\w'.cell? ⟨H,4,none⟩=some (.bool x.lazy)/\w'.cell? ⟨H,3,none⟩=some (.int .i64 x.hi))
     (first|go_keep|(go_split_ands;refine⟨?_,?_,?_,?_,?_⟩<;>(refine Ext.cell (by assumption) ?_;assumption)))
     (first|(go_at_call 134;refine(HA.o _ Ql.o).mono ?_;rintro e w6⟨O,A6,c6,rfl,FR⟩;have yw:=jd (d.o.aj (((aa _).drew).trans O));have Jt:=jd FR;have I7:=jd (Ql.o.ext O);clear FR)|(go_at_call 136;refine(HB.o _ I7.o).mono ?_;rintro e w7⟨G,A7,c7,rfl,IK⟩;have Zk:=jd (yw.o.aj G);have tq:=jd IK;have KO:=jd (Jt.o.ext G);clear IK)|(go_at_call 115;refine(E.o _ _ (U5 rfl KO.o tq.o)).mono ?_;rintro e w9⟨P,A9,c9,rfl,C⟩;have yK:=jd C;have f:=jd (Zk.o.aj (((aa _).alloc _).trans P));have r0:=f.o.r0;have r1:=f.o.r1;have f0:=f.o.fr 0;have f1:=f.o.fr 1;clear C));go_wp2_with fail
   rotate_left
  rotate_left 2;all_goals
   refine bC (v:=.agg #[.slice A9 R.l.length c9,.int .i64 (R.n:Int)]) (by simp[results,Tryz.results117,go_sem,r0,r1]) rfl ?_;exact l6 f.o.ext f.o.lo f.o.res (yK.o.wk fun _ h=>h.1)
end
section
open Go.RowKit
open RX(aA WF FP lift under Sm sW)
abbrev IZ(n:Nat)(l:List aA):Prop:=∀(v:Value)(w:World),dI 0 0 w v l->Calls Tryz.prog 117 #[v] w (lh (Nw w) (PG.tree n l) w)
theorem oQ{g n:Nat}{x:aA}{ls:List (List aA)}{e:Int}(f:∀l∈ls,RX.FX l)(i:(under x ls).length<=100000000)(d:∀l∈ls,PG.Ok g (PG.tree n (l.map (lift (e+1))))/\IZ n (l.map (lift (e+1))))(p:KOk (lift e x) (ls.map (List.map (lift (e+1))))):IZ (n+1) ((under x ls).map (lift e)):=by
 intro v w j;rw[PG.lZ f];rw[RX.jy]at j;have a:PG.qa (ls.flatten.map (lift (e+1)))=ls.map (List.map (lift (e+1))):=PG.Aw (e+1) ls _ f (az _);have k:(under x ls).length=(ls.flatten.map (lift (e+1))).length+1:=by unfold under;rw[aF,fP,fP]
 have h:=Et g (lift e x) (ls.flatten.map (lift (e+1))) (PG.tree n) v w j (by rw[aF];omega) (fun kid m=>by rw[a]at m;obtain⟨l,i,rfl⟩:=xu.1 m;exact d l i) (by rw[a];exact p);rw[a,List.map_map]at h;exact h
mutual theorem uI{g:Nat}:∀{l:List aA}{a b:Int},WF l a b->0<=a->b<=g->sW l->∀(e:Int)(n:Nat),l.length<=n->l.length<=100000000->IZ n (l.map (lift e))
|_,_,_,.leaf x a h0 hd hk,_,_,hs,e,n,hn,hl=>by
 cases n with
 |zero=>simp at hn
 |succ n=>
  have hx:=hs x (by simp);intro v w hv;have hkind:(lift e x).kind=x.kind:=rfl;refine Et g (lift e x) [] (PG.tree n) v w hv (by simp) (fun kid X3=>by simp[PG.qa,PG.kids]at X3) ?_;unfold KOk;rw[hkind];rcases hk with h|h|⟨h,hs1,h2⟩
  .exact .inr (.inr (.inr (.inl h)))
  .exact .inr (.inr (.inr (.inr (.inl h))))
  .exact .inr (.inr (.inl ⟨h,hs1,aG hx.1 (by decide)⟩))
|_,_,_,.seq x ls a b hd hk hw,h0,hb,hs,e,n,hn,hl=>by
 have ht:=fun l hl=>(RX.jI hw).top l hl;cases n with
 |zero=>simp[under]at hn
 |succ n=>
  have hin:=RX.qx hs;have UT:∀m∈ls,m.length<=n:=fun m hm=>by have:=PG.dZ (x:=x) hm;omega
  exact oQ (g:=g) ht hl (fun l hm=>⟨PG.uJ hw h0 hb (e+1) n UT l hm,Ay (g:=g) hw h0 hb hin.2 (e+1) n UT (fun m hm=>by have:=PG.dZ (x:=x) hm;omega) l hm⟩) (.inl hk)
|_,_,_,.alt x ls a b hd hk h2 hw,h0,hb,hs,e,n,hn,hl=>by
 have ht:=fun l hl=>(RX.jI hw).top l hl;cases n with
 |zero=>simp[under]at hn
 |succ n=>
  have hin:=RX.qx hs;have UT:∀m∈ls,m.length<=n:=fun m hm=>by have:=PG.dZ (x:=x) hm;omega
  refine oQ (g:=g) ht hl (fun l hm=>⟨PG.uJ hw h0 hb (e+1) n UT l hm,Ay (g:=g) hw h0 hb hin.2 (e+1) n UT (fun m hm=>by have:=PG.dZ (x:=x) hm;omega) l hm⟩) (.inr (.inl ⟨hk,?_⟩));intro h;rw[List.map_eq_nil_iff]at h;subst h;simp at h2
|_,_,_,.rep x l a b hd hk hlh hw,h0,hb,hs,e,n,hn,hl=>by
 have ht:∀m∈[l],RX.FX m:=fun m hm=>by simp at hm;subst hm;exact(RX.gm hw).top
 cases n with
 |zero=>simp[under]at hn
 |succ n=>
  have hin:=RX.qx hs;have hx:=hin.1;have UT:=PG.dZ (x:=x) (ls:=[l]) (l:=l) (by simp);refine oQ (g:=g) ht hl (fun m hm=>?_) (.inr (.inr (.inr (.inr (.inr (.inr ⟨hk,by simp,hx.2.1,Int.le_trans hx.2.2.1 (by decide),?_⟩))))))
  .simp at hm;subst hm;exact⟨PG.mr hw h0 hb (e+1) n (by omega),uI (g:=g) hw h0 hb (hin.2 m (by simp)) (e+1) n (by omega) (by omega)⟩
  .show x.hi<0\/x.lo<=x.hi/\x.hi<=1000000;have h9:=hx.2.2.2;rcases Int.lt_or_le x.hi 0 with h|h
   .exact .inl h
   .exact .inr ⟨hlh h,by omega⟩
|_,_,_,.mP x l a b hd hk hlo hw,h0,hb,hs,e,n,hn,hl=>by
 have ht:∀m∈[l],RX.FX m:=fun m hm=>by simp at hm;subst hm;exact(RX.gm hw).top
 cases n with
 |zero=>simp[under]at hn
 |succ n=>have hin:=RX.qx hs;have hx:=hin.1;have UT:=PG.dZ (x:=x) (ls:=[l]) (l:=l) (by simp);refine oQ (g:=g) ht hl (fun m hm=>?_) (.inr (.inr (.inr (.inr (.inr (.inl ⟨hk,by simp,hx.2.1,Int.le_trans hx.2.2.1 (by decide)⟩))))));simp at hm;subst hm;exact⟨PG.mr hw h0 hb (e+1) n (by omega),uI (g:=g) hw h0 hb (hin.2 m (by simp)) (e+1) n (by omega) (by omega)⟩
|_,_,_,.num x l a b h1 hd hk hlo hw,h0,hb,hs,e,n,hn,hl=>by
 have ht:∀m∈[l],RX.FX m:=fun m hm=>by simp at hm;subst hm;exact(RX.gm hw).top
 cases n with
 |zero=>simp[under]at hn
 |succ n=>have hin:=RX.qx hs;have hx:=hin.1;have UT:=PG.dZ (x:=x) (ls:=[l]) (l:=l) (by simp);refine oQ (g:=g) ht hl (fun m hm=>?_) (.inr (.inr (.inr (.inr (.inr (.inl ⟨hk,by simp,hx.2.1,Int.le_trans hx.2.2.1 (by decide)⟩))))));simp at hm;subst hm;exact⟨PG.mr hw (by omega) hb (e+1) n (by omega),uI (g:=g) hw (by omega) hb (hin.2 m (by simp)) (e+1) n (by omega) (by omega)⟩
 theorem Ay{g:Nat}:∀{ls:List (List aA)}{a b:Int},FP ls a b->0<=a->b<=g->(∀l∈ls,sW l)->∀(e:Int)(n:Nat),(∀l∈ls,l.length<=n)->(∀l∈ls,l.length<=100000000)->∀l∈ls,IZ n (l.map (lift e))
|_,_,_,.nil a h0,_,_,_,_,_,_,_,l,hl=>by simp at hl
|_,_,_,.cons m ls a b c hw hs,h0,hb,hm,e,n,hn,hx,l,hl=>by
 have h1:=(RX.gm hw).le;have h2:=(RX.jI hs).le;rcases List.mem_cons.1 hl with he|hl
 .rw[he];exact uI (g:=g) hw h0 (by omega) (hm _ (by simp)) e n (hn _ (by simp)) (hx _ (by simp))
 .exact Ay (g:=g) hs (by omega) hb (fun q hq=>hm q (by simp[hq])) e n (fun q hq=>hn q (by simp[hq])) (fun q hq=>hx q (by simp[hq])) l hl
end
theorem zQ(l:List aA):l.map (lift 0)=l:=by
 conv=>rhs;rw[<-List.map_id l]
 exact List.map_congr_left fun x _=>by unfold lift;simp
theorem BK{s:List Int}{l:List aA}{p:Int}(h:RX.parse s=(l,0,p))(v:Value)(w:World)(j:dI 0 0 w v l):Calls Tryz.prog 117 #[v] w (lh (Nw w) (PG.tree l.length l) w)/\∃g:Nat,WF l 0 g/\PG.Ok g (PG.tree l.length l):=by
 obtain⟨b,d,-⟩:=RX.yD h;have k:=(RX.gm d).le;have e:=(RX.vJ h).1;have a:WF l 0 ((b.toNat:Nat):Int):=by rw[show((b.toNat:Nat):Int)=b by omega];exact d
 have f:=uI (g:=b.toNat) a (tK _) (tK _) (RX.qO h) 0 l.length (az _) (by omega);have i:=PG.mr (g:=b.toNat) a (tK _) (tK _) 0 l.length (az _);rw[zQ]at f i;exact⟨f v w j,b.toNat,a,i⟩
end
namespace PG
open RX(aA)
theorem Ms{s:List Int}{l:List aA}{p:Int}(h:RX.parse s=(l,0,p)):Tree 0 l:=by obtain⟨b,a,-⟩:=RX.yD h;have d:=yE a (RX.qO h) 0;rwa[zQ]at d
theorem JW{s:List Int}{l:List aA}{p:Int}(h:RX.parse s=(l,0,p)):(297<gH l.length l->compile s=([],3,(s.length:Int)))/\(gH l.length l<=297->compile s=(zR l,0,0)):=by
 have a:=QQ l;have d:=Mt l;rw[vF]at d;have f:=a.2.1;unfold compile;rw[h];dsimp only;rw[av rfl];refine⟨fun e=>?_,fun e=>?_⟩
 .rw[av (by omega)]
 .rw[ae (by omega),a.2.2 (by omega)]
theorem Im{s:List Int}{l:List aA}{c p:Int}(h:RX.parse s=(l,c,p))(a:c≠0):compile s=([],c,p):=by unfold compile;rw[h];dsimp only;rw[ae a]
theorem Mv(l:List aA):zR l=iS 0++(kX l.length l).map (moved 1)++[⟨3,1,0,false,[]⟩,⟨6,0,0,false,[]⟩]:=by unfold zR;simp only[fl,iS,iU,lL];rfl
end PG
end Go.Proofs.YtcogknbbbjnaiaaGreatDoor
