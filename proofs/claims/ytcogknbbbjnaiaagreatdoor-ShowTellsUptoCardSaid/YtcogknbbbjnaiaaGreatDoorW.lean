/- For ShowTells: what the texts XRfJ XRfK XRfL XRfM XRfN of wip/tpl say. -/
import Derived.Test.YtcogknbbbjnaiaaGreatDoorV
set_option maxRecDepth 100000
set_option maxHeartbeats 4000000
namespace Go.Proofs.YtcogknbbbjnaiaaGreatDoor
open Go.RowKit
namespace RX
section
variable{s:List Int}{alt:St->List aA×St}{st:St}
theorem Lu(h:(dP s alt st).2.ok=true):∃k r,(dP s alt st).1=node 5 k 0 false false []::r:=by
 unfold dP at h⊢;split at h
 .rw[St.aW _ (by decide)]at h;cases h
 rename_i d;rw[ae d];split at h
 .rename_i a;rw[av a];exact⟨_,_,rfl⟩
 rename_i a;rw[ae a];split at h
 .rw[St.aW _ (by decide)]at h;cases h
 rename_i e;rw[ae e];split at h
 .rw[St.aW _ (by decide)]at h;cases h
 rename_i f;rw[ae f];exact⟨_,_,rfl⟩
theorem Ow(h:(di s alt st).2.ok=true):∃x r,(di s alt st).1=x::r/\x.kind≠3/\x.kind≠4:=by
 unfold di at h⊢;simp only at h⊢;split at h
 .rw[St.aW _ (by decide)]at h;cases h
 rename_i j;rw[ae j];split at h
 .rename_i d;rw[av d];obtain⟨k,r,e⟩:=Lu h;exact⟨_,r,e,by show(5:Int)≠3;decide,by show(5:Int)≠4;decide⟩
 rename_i d;rw[ae d];split at h
 .rename_i f;rw[av f];exact⟨_,_,rfl,by show(2:Int)≠3;decide,by show(2:Int)≠4;decide⟩
 rename_i f;rw[ae f];split at h
 .rename_i i;rw[av i];rw[uS rfl]at h⊢;split at h
  .rw[St.aW _ (by decide)]at h;cases h
  .rename_i a;rw[ae a];exact⟨_,_,rfl,by show(2:Int)≠3;decide,by show(2:Int)≠4;decide⟩
 rename_i i;rw[ae i];split at h
 .rename_i a;rw[av a];exact⟨_,_,rfl,by show(2:Int)≠3;decide,by show(2:Int)≠4;decide⟩
 .rename_i a;rw[ae a];exact⟨_,_,rfl,by show(2:Int)≠3;decide,by show(2:Int)≠4;decide⟩
theorem VK(a:st.ok=true)(h:(mZ s alt st).2.ok=false):bU s alt st=([],(mZ s alt st).2):=by
 unfold mZ at h⊢;unfold bU;simp only;split at h
 .have h:st.ok=false:=h;rw[a]at h;cases h
 rename_i d;split at h
 .have h:st.ok=false:=h;rw[a]at h;cases h
 rename_i e;simp only[ae d,ae e];rw[ae (by rw[h];simp)]
theorem Sk(h:(mZ s alt st).2.ok=true):∃x r,(mZ s alt st).1=x::r/\(((x.kind=3\/x.kind=4)/\bU s alt st=mZ s alt st)\/(x.kind≠3/\x.kind≠4/\bU s alt st=cK s (mZ s alt st).1 (mZ s alt st).2)):=by
 unfold mZ at h⊢;unfold bU;simp only;split at h
 .rename_i a;simp only[av a];exact⟨_,_,rfl,.inl ⟨.inl rfl,trivial⟩⟩
 rename_i a;split at h
 .rename_i d;simp only[ae a,av d];exact⟨_,_,rfl,.inl ⟨.inr rfl,trivial⟩⟩
 rename_i d;simp only[ae a,ae d];obtain⟨x,r,e,f,i⟩:=Ow h;exact⟨x,r,e,.inr ⟨f,i,by rw[av h]⟩⟩
end
end RX
theorem fU.rep{s:List Int}{st i a h:RX.St}{lo hi:Int}{j:List RX.aA}{K:Nat}{D:Int}{N:Nat}(z:RX.eP s i=some (lo,hi,a))(k:j.length<=K)(A:∀x∈j,0<=x.deep/\x.deep<=D)(F:0<=D)(p:h.op=st.op)(r:h.at_+1<=N)(B:a.ok=true->h=a)(C:a.ok=false->h.code=a.code/\h.gL=a.gL){lz:Bool}(t:decide (RX.aR s h 0=63)=lz):fU (RX.cK s j i) st (K+1) (D+1) N (RX.node 6 lo hi lz false []::j.map RX.aA.down) (if lz=true then h.bump 1 else h):=by
 have e:RX.cK s j i=(RX.under (RX.node 6 lo hi (a.ok&&decide (RX.aR s a 0=63)) false []) [j],if(a.ok&&decide (RX.aR s a 0=63))then a.bump 1 else a):=by unfold RX.cK;rw[z]
 rw[e];refine⟨by simp;exact k,?_,?_,?_,?_,?_⟩
 .intro x u;rcases List.mem_cons.1 u with rfl|u
  .exact⟨tK _,by show(0:Int)<=D+1;omega⟩
  .obtain⟨y,E,rfl⟩:=xu.1 u;have:=A y E;exact⟨by show 0<=y.deep+1;omega,by show y.deep+1<=D+1;omega⟩
 .split
  .exact r
  .omega
 .split<;>exact p
 .intro d;have f:a.ok=true:=by
   rcases m:a.ok with _|_
   .simp only[m,Bool.false_and,ae Bool.false_ne_true]at d;cases d
   .rfl
  have:=B f;subst this;rw[f,Bool.true_and,t,RX.Bb];exact⟨rfl,rfl⟩
 .intro d;have f:a.ok=false:=by
   rcases m:a.ok with _|_
   .rfl
   .exfalso;revert d;dsimp only;split
    .intro d;have d:a.ok=false:=d;rw[m]at d;cases d
    .intro d;rw[m]at d;cases d
  obtain⟨v,w⟩:=C f;rw[f];simp only[Bool.false_and,ae Bool.false_ne_true];split
  .exact⟨v,w⟩
  .exact⟨v,w⟩
section
variable{w0:World}{rb:Nat}{sv:Value}{s:List Int}
theorem Sl(n:Nat)(alt:RX.St->List RX.aA×RX.St){K:Nat}{D:Int}{N:Nat}(HA:∀m,n=m+1->Ou w0 rb sv s m alt K D N)(hK:K<=10000)(hD:0<=D/\D<=100)(hN:s.length+4<=N/\N<=400)(H:World)(st:RX.St)(he:Qn w0 rb sv s H st)(hok:st.ok=true)(ha:st.at_<s.length)(h9:st.aC<=9)(hop:st.op+n=12):Calls Tryz.prog 124 #[.pointer (some ⟨rb,0,none⟩)] H (QP rb sv H (RX.bU s alt st) st (K+2) (D+2) (N+8)):=by
 have kJ:=jd (show Qb w0 rb sv s H st H from⟨he,aJ _ _⟩);have A:=he.jk;have kM:=jd hok;have HAT:=jd (fun w h=>Sj n alt HA hK hD ⟨hN.1,by omega⟩ w st h hok ha h9 hop);obtain⟨R,hR⟩:∃x,RX.bU s alt st=x:=⟨_,rfl⟩;have HR:=jd hR;rw[hR];clear he hok hR HA hop;go_enter Tryz.func124,Tryz.ntmps124;go_upto_region 2 with(go_at_call 141;refine(HAT.o _ kJ.o.q).mono ?_;rintro e w3⟨P,vA,a,rfl,hv,hq,ho,hout⟩;have bQ:=jd (kJ.o.call ho hq);have HD3:=jd (show Qb w0 rb sv s w3 a w3 from⟨bQ.o.q,aJ _ _⟩);have lF:=jd hv;have U:=jd hout;obtain⟨AA,cA,rfl,-⟩:=hv.form;clear hv hq ho hout);have haA:a.at_<=N+1:=U.o.hi;have hnn:RX.mZ s alt st=RX.mZ s alt st:=rfl;rcases hkA:a.ok with _|_
 .have HKA:=jd hkA;have hb:(RX.mZ s alt st).2.ok=false:=by rw[<-U.o.ok];exact hkA
  have he:=HR.o.symm.trans (RX.VK kM.o hb);have hcb:=U.o.bad hb;have G:=jd (show fU R st (K+2) (D+2) (N+8) P a from by rw[he];exact⟨Nat.le_succ_of_le U.o.len,fun x f=>⟨(U.o.deep x f).1,by have:=(U.o.deep x f).2;omega⟩,by omega,U.o.op,(fun h=>by rw[hb]at h;cases h),fun _=>hcb⟩);clear hb he hcb hkA hnn;go_wp2_with(go_at_call 90;refine(dX _ _ HD3.o.q).mono ?_;rw[HKA.o];rintro e w4⟨rfl,f⟩;have L:=jd (HD3.o.ex f);clear f);go_ret;exact⟨_,_,_,rfl,(jV lF.o kJ.o.only.size|>.dW (jQ _) (kD L.o.only A)),L.o.q.blk,bQ.o.only.trans L.o.only,G.o⟩
 have HKA:=jd hkA;have hb:(RX.mZ s alt st).2.ok=true:=by rw[<-U.o.ok];exact hkA
 obtain⟨e1,e2⟩:=U.o.good hb;obtain⟨x,r,f,hw⟩:=RX.Sk hb;have hx2:P=x::r:=e1.trans f;have p:=jd U.o.len;have qd:=jd U.o.deep;have Dm:=jd U.o.op;rw[<-e1,<-e2,HR.o]at hw;have h0:0<P.length:=by rw[hx2];exact Nat.succ_pos _
 have h0i:(0:Int)<(P.length:Int):=by omega
 obtain⟨g,oo,cs,rfl,Sb,hcell0⟩:=lF.o.at_ h0;have Q:P[0]=x:=by simp[hx2]
 rw[Q]at Sb;obtain⟨Ax,cx,rfl⟩:=Sb.cells;have c0:=hcell0 0 _ rfl;rw[fB]at c0;have HRR:=jd (show P=(RX.mZ s alt st).1/\a=(RX.mZ s alt st).2 from⟨e1,e2⟩);clear hb hkA hnn e1 f hx2 Q Sb hcell0;rcases hw with⟨hk,hw⟩|⟨hk3,hk4,hw⟩
 .have G:=jd (show fU R st (K+2) (D+2) (N+8) P a from by rw[hw];exact U.o.mono (by omega) (by omega) (by omega));clear hw e2 U;rcases hk with hk|hk;focus
   have b3:(x.kind==3)=true:=by rw[hk];rfl
  rotate_left;focus
   have b3:(x.kind==3)=false:=by rw[hk];rfl
   have b4:(x.kind==4)=true:=by rw[hk];rfl
  rotate_left;all_goals
   clear hk;go_wp2_with(go_at_call 90;refine(dX _ _ HD3.o.q).mono ?_;rw[HKA.o];rintro e w4⟨rfl,f⟩;have L:=jd (HD3.o.ex f);replace c0:=f.cell c0;clear f);go_ret;exact⟨_,_,_,rfl,(jV lF.o kJ.o.only.size|>.dW (jQ _) (kD L.o.only A)),L.o.q.blk,bQ.o.only.trans L.o.only,G.o⟩
 have b3:(x.kind==3)=false:=by simpa using hk3
 have b4:(x.kind==4)=false:=by simpa using hk4
 have HW:=jd hw;clear hk3 hk4 hw e2 U;go_upto_region 5 with(go_at_call 90;refine(dX _ _ HD3.o.q).mono ?_;rw[HKA.o];rintro e w4⟨rfl,f⟩;have L:=jd (HD3.o.ex f);replace c0:=f.cell c0;clear f);have cB:=jd (Qg.start (k:=6) L.o bQ.o.q.jk);generalize w4.heap.size=gb at cB⊢;generalize w4.alloc _=w5 at cB⊢;clear c0 b3 b4 h0 h0i;obtain⟨S,C⟩:∃x,RX.aR s a 0=x:=⟨_,rfl⟩;have HN:=jd C;have hgA:a.at_<=401:=by omega
 by_cases Mq:S=42;focus
  have u:RX.eP s a=some (0,(-1),a.bump 1):=by unfold RX.eP;simp only[C];simp only[Mq];rfl
  have hTa:(a.bump 1).at_<=402:=by show a.at_+1<=402;omega
  have CE:=jd (fun(lz:Bool)V=>fU.rep (lz:=lz) (K:=K+1) (D:=D+1) (N:=N+8) u p.o qd.o (by omega) (show(a.bump 1).op=st.op from Dm.o) (show a.at_+2<=N+8 by omega) (fun _=>rfl) (fun _=>⟨rfl,rfl⟩) V);have b42:(S==42)=true:=by simpa using Mq
  clear C Mq;clear u;go_upto_region 8 with(go_at_call 106;refine(dz _ _ cB.o.b.q).mono ?_;rw[HN.o];rintro e w6⟨rfl,f⟩;have E:=jd (cB.o.ex f);clear f);have X:=E.o.g.fr 3;have Y:=E.o.g.c 3 _ rfl;go_upto_region 9 with fail;have I:=jd (E.o.set (E.o.g.hi_ (hi':=(-1))));generalize w6.setCell _ _=w7 at I⊢;clear X Y;have c1:=I.o.b.q.blk.c1;have f1:=I.o.b.q.blk.fr 1;go_upto_region 18 with fail;have z:=jd I.o.bZ;generalize w7.setCell _ _=w8 at z⊢;clear c1 f1;obtain⟨Z,i⟩:∃x,RX.aR s (a.bump 1) 0=x:=⟨_,rfl⟩;have VL:=jd i;by_cases v:Z=63;focus
   have bz:(Z==63)=true:=by simpa using v
   have G:=jd (CE.o true (show decide (RX.aR s (a.bump 1) 0=63)=true from bJ (i.trans v)));rw[av rfl]at G;clear i v;go_upto_region 19 with(go_at_call 106;refine(dz _ _ z.o.b.q).mono ?_;rw[VL.o];rintro e wX⟨rfl,f⟩;have M:=jd (z.o.ex f);clear f);have fg:=M.o.g.fr 4;have cg:=M.o.g.c 4 _ rfl;go_upto_region 20 with fail;have O:=jd (M.o.set M.o.g.lz_);generalize wX.setCell _ _=wY at O⊢;clear fg cg;have c1:=O.o.b.q.blk.c1;have f1:=O.o.b.q.blk.fr 1;go_upto_region 21 with fail;have d:=jd O.o.bZ;generalize wY.setCell _ _=wF at d⊢;clear c1 f1;have g0:=d.o.g.c 0 _ rfl;have g1:=d.o.g.c 1 _ rfl;have g2:=d.o.g.c 2 _ rfl;have g3:=d.o.g.c 3 _ rfl;have g4:=d.o.g.c 4 _ rfl;have g5:=d.o.g.c 5 _ rfl;have g6:=d.o.g.c 6 _ rfl;have t:H.heap.size<=wF.heap.size:=aG bQ.o.only.size d.o.b.only.size;have Ox:=jd ((jV lF.o kJ.o.only.size).dW (jQ _) (kD d.o.b.only A));go_wp2_with(go_at_call 107;refine(ik (B:=H.heap.size) _ (RX.node 6 0 (-1) true false []) _ P _ CR.FW Ox.o t (by have:=p.o;omega) (fun y Q=>by have:=qd.o y Q;omega)).mono ?_;rintro e wz⟨vz,rfl,F,j⟩;have Ca:=jd F.sl;have ug:=jd (d.o.ex j);clear F j)
  rotate_left;focus
   have bz:(Z==63)=false:=by simpa using v
   have G:=jd (CE.o false (show decide (RX.aR s (a.bump 1) 0=63)=false from bR (fun h=>v (i.symm.trans h))));rw[ae Bool.false_ne_true]at G;clear i v;go_upto_region 21 with(go_at_call 106;refine(dz _ _ z.o.b.q).mono ?_;rw[VL.o];rintro e wF⟨rfl,f⟩;have d:=jd (z.o.ex f);clear f);have g0:=d.o.g.c 0 _ rfl;have g1:=d.o.g.c 1 _ rfl;have g2:=d.o.g.c 2 _ rfl;have g3:=d.o.g.c 3 _ rfl;have g4:=d.o.g.c 4 _ rfl;have g5:=d.o.g.c 5 _ rfl;have g6:=d.o.g.c 6 _ rfl;have t:H.heap.size<=wF.heap.size:=aG bQ.o.only.size d.o.b.only.size;have Ox:=jd ((jV lF.o kJ.o.only.size).dW (jQ _) (kD d.o.b.only A));go_wp2_with(go_at_call 107;refine(ik (B:=H.heap.size) _ (RX.node 6 0 (-1) false false []) _ P _ CR.FW Ox.o t (by have:=p.o;omega) (fun y Q=>by have:=qd.o y Q;omega)).mono ?_;rintro e wz⟨vz,rfl,F,j⟩;have Ca:=jd F.sl;have ug:=jd (d.o.ex j);clear F j)
  rotate_left
 rotate_left 2;focus
  by_cases J:S=43;focus
   have u:RX.eP s a=some (1,(-1),a.bump 1):=by unfold RX.eP;simp only[C];simp only[J];rfl
   have hTa:(a.bump 1).at_<=402:=by show a.at_+1<=402;omega
   have CE:=jd (fun(lz:Bool)V=>fU.rep (lz:=lz) (K:=K+1) (D:=D+1) (N:=N+8) u p.o qd.o (by omega) (show(a.bump 1).op=st.op from Dm.o) (show a.at_+2<=N+8 by omega) (fun _=>rfl) (fun _=>⟨rfl,rfl⟩) V);have b42:(S==42)=false:=by simpa using Mq
   have b43:(S==43)=true:=by simpa using J
   clear C Mq J;clear u;go_upto_region 11 with(go_at_call 106;refine(dz _ _ cB.o.b.q).mono ?_;rw[HN.o];rintro e w6⟨rfl,f⟩;have E:=jd (cB.o.ex f);clear f);have fg2:=E.o.g.fr 2;have cg2:=E.o.g.c 2 _ rfl;have X:=E.o.g.fr 3;have Y:=E.o.g.c 3 _ rfl;go_upto_region 12 with fail;have aaC:=jd (E.o.set (E.o.g.lo_ (lo':=1)));have I:=jd (aaC.o.set (aaC.o.g.hi_ (hi':=(-1))));clear aaC;generalize(w6.setCell _ _).setCell _ _=w7 at I⊢;clear fg2 cg2 X Y;have c1:=I.o.b.q.blk.c1;have f1:=I.o.b.q.blk.fr 1;go_upto_region 18 with fail;have z:=jd I.o.bZ;generalize w7.setCell _ _=w8 at z⊢;clear c1 f1;obtain⟨Z,i⟩:∃x,RX.aR s (a.bump 1) 0=x:=⟨_,rfl⟩;have VL:=jd i;by_cases v:Z=63;focus
    have bz:(Z==63)=true:=by simpa using v
    have G:=jd (CE.o true (show decide (RX.aR s (a.bump 1) 0=63)=true from bJ (i.trans v)));rw[av rfl]at G;clear i v;go_upto_region 19 with(go_at_call 106;refine(dz _ _ z.o.b.q).mono ?_;rw[VL.o];rintro e wX⟨rfl,f⟩;have M:=jd (z.o.ex f);clear f);have fg:=M.o.g.fr 4;have cg:=M.o.g.c 4 _ rfl;go_upto_region 20 with fail;have O:=jd (M.o.set M.o.g.lz_);generalize wX.setCell _ _=wY at O⊢;clear fg cg;have c1:=O.o.b.q.blk.c1;have f1:=O.o.b.q.blk.fr 1;go_upto_region 21 with fail;have d:=jd O.o.bZ;generalize wY.setCell _ _=wF at d⊢;clear c1 f1;have g0:=d.o.g.c 0 _ rfl;have g1:=d.o.g.c 1 _ rfl;have g2:=d.o.g.c 2 _ rfl;have g3:=d.o.g.c 3 _ rfl;have g4:=d.o.g.c 4 _ rfl;have g5:=d.o.g.c 5 _ rfl;have g6:=d.o.g.c 6 _ rfl;have t:H.heap.size<=wF.heap.size:=aG bQ.o.only.size d.o.b.only.size;have Ox:=jd ((jV lF.o kJ.o.only.size).dW (jQ _) (kD d.o.b.only A));go_wp2_with(go_at_call 107;refine(ik (B:=H.heap.size) _ (RX.node 6 1 (-1) true false []) _ P _ CR.FW Ox.o t (by have:=p.o;omega) (fun y Q=>by have:=qd.o y Q;omega)).mono ?_;rintro e wz⟨vz,rfl,F,j⟩;have Ca:=jd F.sl;have ug:=jd (d.o.ex j);clear F j)
   rotate_left;focus
    have bz:(Z==63)=false:=by simpa using v
    have G:=jd (CE.o false (show decide (RX.aR s (a.bump 1) 0=63)=false from bR (fun h=>v (i.symm.trans h))));rw[ae Bool.false_ne_true]at G;clear i v;go_upto_region 21 with(go_at_call 106;refine(dz _ _ z.o.b.q).mono ?_;rw[VL.o];rintro e wF⟨rfl,f⟩;have d:=jd (z.o.ex f);clear f);have g0:=d.o.g.c 0 _ rfl;have g1:=d.o.g.c 1 _ rfl;have g2:=d.o.g.c 2 _ rfl;have g3:=d.o.g.c 3 _ rfl;have g4:=d.o.g.c 4 _ rfl;have g5:=d.o.g.c 5 _ rfl;have g6:=d.o.g.c 6 _ rfl;have t:H.heap.size<=wF.heap.size:=aG bQ.o.only.size d.o.b.only.size;have Ox:=jd ((jV lF.o kJ.o.only.size).dW (jQ _) (kD d.o.b.only A));go_wp2_with(go_at_call 107;refine(ik (B:=H.heap.size) _ (RX.node 6 1 (-1) false false []) _ P _ CR.FW Ox.o t (by have:=p.o;omega) (fun y Q=>by have:=qd.o y Q;omega)).mono ?_;rintro e wz⟨vz,rfl,F,j⟩;have Ca:=jd F.sl;have ug:=jd (d.o.ex j);clear F j)
   rotate_left
  rotate_left 2;focus
   by_cases T:S=63;focus
    have u:RX.eP s a=some (0,1,a.bump 1):=by unfold RX.eP;simp only[C];simp only[T];rfl
    have hTa:(a.bump 1).at_<=402:=by show a.at_+1<=402;omega
    have CE:=jd (fun(lz:Bool)V=>fU.rep (lz:=lz) (K:=K+1) (D:=D+1) (N:=N+8) u p.o qd.o (by omega) (show(a.bump 1).op=st.op from Dm.o) (show a.at_+2<=N+8 by omega) (fun _=>rfl) (fun _=>⟨rfl,rfl⟩) V);have b42:(S==42)=false:=by simpa using Mq
    have b43:(S==43)=false:=by simpa using J
    have b63:(S==63)=true:=by simpa using T
    clear C Mq J T;clear u;go_upto_region 14 with(go_at_call 106;refine(dz _ _ cB.o.b.q).mono ?_;rw[HN.o];rintro e w6⟨rfl,f⟩;have E:=jd (cB.o.ex f);clear f);have X:=E.o.g.fr 3;have Y:=E.o.g.c 3 _ rfl;go_upto_region 15 with fail;have I:=jd (E.o.set (E.o.g.hi_ (hi':=1)));generalize w6.setCell _ _=w7 at I⊢;clear X Y;have c1:=I.o.b.q.blk.c1;have f1:=I.o.b.q.blk.fr 1;go_upto_region 18 with fail;have z:=jd I.o.bZ;generalize w7.setCell _ _=w8 at z⊢;clear c1 f1;obtain⟨Z,i⟩:∃x,RX.aR s (a.bump 1) 0=x:=⟨_,rfl⟩;have VL:=jd i;by_cases v:Z=63;focus
     have bz:(Z==63)=true:=by simpa using v
     have G:=jd (CE.o true (show decide (RX.aR s (a.bump 1) 0=63)=true from bJ (i.trans v)));rw[av rfl]at G;clear i v;go_upto_region 19 with(go_at_call 106;refine(dz _ _ z.o.b.q).mono ?_;rw[VL.o];rintro e wX⟨rfl,f⟩;have M:=jd (z.o.ex f);clear f);have fg:=M.o.g.fr 4;have cg:=M.o.g.c 4 _ rfl;go_upto_region 20 with fail;have O:=jd (M.o.set M.o.g.lz_);generalize wX.setCell _ _=wY at O⊢;clear fg cg;have c1:=O.o.b.q.blk.c1;have f1:=O.o.b.q.blk.fr 1;go_upto_region 21 with fail;have d:=jd O.o.bZ;generalize wY.setCell _ _=wF at d⊢;clear c1 f1;have g0:=d.o.g.c 0 _ rfl;have g1:=d.o.g.c 1 _ rfl;have g2:=d.o.g.c 2 _ rfl;have g3:=d.o.g.c 3 _ rfl;have g4:=d.o.g.c 4 _ rfl;have g5:=d.o.g.c 5 _ rfl;have g6:=d.o.g.c 6 _ rfl;have t:H.heap.size<=wF.heap.size:=aG bQ.o.only.size d.o.b.only.size;have Ox:=jd ((jV lF.o kJ.o.only.size).dW (jQ _) (kD d.o.b.only A));go_wp2_with(go_at_call 107;refine(ik (B:=H.heap.size) _ (RX.node 6 0 1 true false []) _ P _ CR.FW Ox.o t (by have:=p.o;omega) (fun y Q=>by have:=qd.o y Q;omega)).mono ?_;rintro e wz⟨vz,rfl,F,j⟩;have Ca:=jd F.sl;have ug:=jd (d.o.ex j);clear F j)
    rotate_left;focus
     have bz:(Z==63)=false:=by simpa using v
     have G:=jd (CE.o false (show decide (RX.aR s (a.bump 1) 0=63)=false from bR (fun h=>v (i.symm.trans h))));rw[ae Bool.false_ne_true]at G;clear i v;go_upto_region 21 with(go_at_call 106;refine(dz _ _ z.o.b.q).mono ?_;rw[VL.o];rintro e wF⟨rfl,f⟩;have d:=jd (z.o.ex f);clear f);have g0:=d.o.g.c 0 _ rfl;have g1:=d.o.g.c 1 _ rfl;have g2:=d.o.g.c 2 _ rfl;have g3:=d.o.g.c 3 _ rfl;have g4:=d.o.g.c 4 _ rfl;have g5:=d.o.g.c 5 _ rfl;have g6:=d.o.g.c 6 _ rfl;have t:H.heap.size<=wF.heap.size:=aG bQ.o.only.size d.o.b.only.size;have Ox:=jd ((jV lF.o kJ.o.only.size).dW (jQ _) (kD d.o.b.only A));go_wp2_with(go_at_call 107;refine(ik (B:=H.heap.size) _ (RX.node 6 0 1 false false []) _ P _ CR.FW Ox.o t (by have:=p.o;omega) (fun y Q=>by have:=qd.o y Q;omega)).mono ?_;rintro e wz⟨vz,rfl,F,j⟩;have Ca:=jd F.sl;have ug:=jd (d.o.ex j);clear F j)
    rotate_left
   rotate_left 2;focus
    by_cases Cq:S=123;focus
     obtain⟨bo,Tp⟩:∃x,RX.bounds s a=x:=⟨_,rfl⟩;have u:RX.eP s a=some (bo.1,bo.2.1,bo.2.2):=by unfold RX.eP;simp only[C];simp only[Cq,Tp];rfl
     have hta:=RX.VG s a;have htb:=RX.Jg s a;rw[Tp]at htb;obtain⟨lo,hi,st1⟩:=bo;have HBO:=jd (show(RX.bounds s a).1=lo/\(RX.bounds s a).2.1=hi by rw[Tp];exact⟨rfl,rfl⟩);have CE:=jd (fun(lz:Bool)V=>fU.rep (lz:=lz) (K:=K+1) (D:=D+1) (N:=N+8) u p.o qd.o (by omega) (hta.2.trans Dm.o) (by omega) htb.1 htb.2 V);have hTa:(RX.nJ s a).at_<=410:=by omega
     have b42:(S==42)=false:=by simpa using Mq
     have b43:(S==43)=false:=by simpa using J
     have b63:(S==63)=false:=by simpa using T
     have acF:(S==123)=true:=by simpa using Cq
     clear C Mq J T Cq;clear u Tp hta htb;go_upto_region 18 with(first|(go_at_call 106;refine(dz _ _ cB.o.b.q).mono ?_;rw[HN.o];rintro e w6⟨rfl,f⟩;have E:=jd (cB.o.ex f);clear f)|(go_at_call 142;refine(Oq _ _ E.o.b.q (by omega)).mono ?_;rw[HBO.o.1,HBO.o.2];rintro e w7⟨rfl,hq,ho⟩;have I:=jd (E.o.call ho hq);have fg2:=I.o.g.fr 2;have cg2:=I.o.g.c 2 _ rfl;have X:=I.o.g.fr 3;have Y:=I.o.g.c 3 _ rfl;clear hq ho));have aaD:=jd (I.o.set (I.o.g.lo_ (lo':=lo)));have z:=jd (aaD.o.set (aaD.o.g.hi_ (hi':=hi)));clear aaD;generalize(w7.setCell _ _).setCell _ _=w8 at z⊢;generalize RX.nJ s a=Tu at z CE hTa;clear fg2 cg2 X Y;obtain⟨Z,i⟩:∃x,RX.aR s Tu 0=x:=⟨_,rfl⟩;have VL:=jd i;by_cases v:Z=63;focus
      have bz:(Z==63)=true:=by simpa using v
      have G:=jd (CE.o true (show decide (RX.aR s Tu 0=63)=true from bJ (i.trans v)));rw[av rfl]at G;clear i v;go_upto_region 19 with(go_at_call 106;refine(dz _ _ z.o.b.q).mono ?_;rw[VL.o];rintro e wX⟨rfl,f⟩;have M:=jd (z.o.ex f);clear f);have fg:=M.o.g.fr 4;have cg:=M.o.g.c 4 _ rfl;go_upto_region 20 with fail;have O:=jd (M.o.set M.o.g.lz_);generalize wX.setCell _ _=wY at O⊢;clear fg cg;have c1:=O.o.b.q.blk.c1;have f1:=O.o.b.q.blk.fr 1;go_upto_region 21 with fail;have d:=jd O.o.bZ;generalize wY.setCell _ _=wF at d⊢;clear c1 f1;have g0:=d.o.g.c 0 _ rfl;have g1:=d.o.g.c 1 _ rfl;have g2:=d.o.g.c 2 _ rfl;have g3:=d.o.g.c 3 _ rfl;have g4:=d.o.g.c 4 _ rfl;have g5:=d.o.g.c 5 _ rfl;have g6:=d.o.g.c 6 _ rfl;have t:H.heap.size<=wF.heap.size:=aG bQ.o.only.size d.o.b.only.size;have Ox:=jd ((jV lF.o kJ.o.only.size).dW (jQ _) (kD d.o.b.only A));go_wp2_with(go_at_call 107;refine(ik (B:=H.heap.size) _ (RX.node 6 lo hi true false []) _ P _ CR.FW Ox.o t (by have:=p.o;omega) (fun y Q=>by have:=qd.o y Q;omega)).mono ?_;rintro e wz⟨vz,rfl,F,j⟩;have Ca:=jd F.sl;have ug:=jd (d.o.ex j);clear F j)
     rotate_left;focus
      have bz:(Z==63)=false:=by simpa using v
      have G:=jd (CE.o false (show decide (RX.aR s Tu 0=63)=false from bR (fun h=>v (i.symm.trans h))));rw[ae Bool.false_ne_true]at G;clear i v;go_upto_region 21 with(go_at_call 106;refine(dz _ _ z.o.b.q).mono ?_;rw[VL.o];rintro e wF⟨rfl,f⟩;have d:=jd (z.o.ex f);clear f);have g0:=d.o.g.c 0 _ rfl;have g1:=d.o.g.c 1 _ rfl;have g2:=d.o.g.c 2 _ rfl;have g3:=d.o.g.c 3 _ rfl;have g4:=d.o.g.c 4 _ rfl;have g5:=d.o.g.c 5 _ rfl;have g6:=d.o.g.c 6 _ rfl;have t:H.heap.size<=wF.heap.size:=aG bQ.o.only.size d.o.b.only.size;have Ox:=jd ((jV lF.o kJ.o.only.size).dW (jQ _) (kD d.o.b.only A));go_wp2_with(go_at_call 107;refine(ik (B:=H.heap.size) _ (RX.node 6 lo hi false false []) _ P _ CR.FW Ox.o t (by have:=p.o;omega) (fun y Q=>by have:=qd.o y Q;omega)).mono ?_;rintro e wz⟨vz,rfl,F,j⟩;have Ca:=jd F.sl;have ug:=jd (d.o.ex j);clear F j)
     rotate_left
    rotate_left 2;focus
     have u:RX.eP s a=none:=by unfold RX.eP;simp only[C];simp only[ae Mq,ae J,ae T,ae Cq]
     have DI:RX.cK s P a=(P,a):=by unfold RX.cK;rw[u]
     have G:=jd (show fU R st (K+2) (D+2) (N+8) P a from by rw[HW.o,DI];exact⟨Nat.le_succ_of_le p.o,fun x f=>⟨(qd.o x f).1,by have:=(qd.o x f).2;omega⟩,by omega,Dm.o,fun _=>⟨rfl,rfl⟩,fun _=>⟨rfl,rfl⟩⟩);have b42:(S==42)=false:=by simpa using Mq
     have b43:(S==43)=false:=by simpa using J
     have b63:(S==63)=false:=by simpa using T
     have acF:(S==123)=false:=by simpa using Cq
     clear C Mq J T Cq;clear u DI;go_wp2_with(go_at_call 106;refine(dz _ _ cB.o.b.q).mono ?_;rw[HN.o];rintro e w6⟨rfl,f⟩;have E:=jd (cB.o.ex f);clear f);go_ret;exact⟨_,_,_,rfl,(jV lF.o kJ.o.only.size|>.dW (jQ _) (kD E.o.b.only A)),E.o.b.q.blk,bQ.o.only.trans E.o.b.only,G.o⟩
 all_goals
  go_ret;exact⟨_,_,_,rfl,Ca.o,ug.o.b.q.blk,bQ.o.only.trans ug.o.b.only,by rw[HW.o];exact G.o.mono (az _) (show D+1+1<=D+2 by omega) (az _)⟩
end
namespace RX
theorem Fb(x:aA)(items:List (List aA))(l:List aA):under x (items++[l])=under x items++l.map aA.down:=by simp[under]
inductive uT(s:List Int)(alt:St->List aA×St)(c:Nat)(R:List aA×St)(st:St)(K:Nat)(D:Int)(N:Nat)(k:Nat):St->List aA->Prop
|sync(st':St)(items:List (List aA)):st'.ok=true->bD s alt k st' items=R->s.length+1<=k+st'.at_->iC s (c+1) st st'->(∀l∈items,∀x∈l,0<=x.deep/\x.deep<=D+2)->items.flatten.length<=2*(st'.at_-st.at_)->uT s alt c R st K D N k st' (under (node 0 0 0 false false []) items)
|fail(st':St)(l:List aA):st'.ok=false->st'.code=R.2.code->st'.gL=R.2.gL->R.2.ok=false->st'.op=st.op->st'.at_<=N+8->l.length<=K+125->(∀x∈l,0<=x.deep/\x.deep<=D+3)->uT s alt c R st K D N k st' l
section
variable{s:List Int}{alt:St->List aA×St}{c:Nat}{R:List aA×St}{st st':St}{K:Nat}{D:Int}{N k:Nat}{l:List aA}
theorem uT.start(a:st.ok=true)(d:st.at_<=s.length)(e:st.aC<=9)(f:bD s alt k st []=R)(h:s.length+1<=k+st.at_):uT s alt c R st K D N k st [node 0 0 0 false false []]:=.sync st [] a f h (iC.refl _ d e) (by simp) (by simp)
theorem uT.shape(h:uT s alt c R st K D N k st' l)(m:s.length<=60)(p:0<=D):l.length<=K+125/\(∀x∈l,0<=x.deep/\x.deep<=D+3)/\st'.op=st.op:=by
 cases h with
 |sync items i r t d a u=>have:=oV (top:=node 0 0 0 false false []) rfl (show 0<=D+2 by omega) a;have e:=d.yA i;refine⟨aG this.1 (by omega),fun x f=>⟨(this.2 x f).1,by have:=(this.2 x f).2;omega⟩,d.op⟩
 |fail _ _ _ _ _ a _ e j=>exact⟨e,j,a⟩
theorem uT.o(h:uT s alt c R st K D N k st' l)(a:st'.ok=false):fU R st (K+125) (D+3) (N+8) l st':=by
 cases h with
 |sync _ d=>rw[a]at d;cases d
 |fail _ _ e f i j m p r=>exact⟨p,r,m,j,(fun h=>by rw[i]at h;cases h),fun _=>⟨e,f⟩⟩
theorem uT.live(h:uT s alt c R st K D N k st' l)(d:st'.ok=true):st'.at_<=s.length/\st'.aC<=9/\s.length+1<=k+st'.at_/\0<l.length:=by
 cases h with
 |sync _ a i f e=>exact⟨e.yA a,e.dL,f,Nat.succ_pos _⟩
 |fail _ a=>rw[d]at a;cases a
theorem uT.stop(h:uT s alt c R st K D N (k+1) st' l)(a:st'.ok=true)(i:fV (aR s st' 0)=true)(j:s.length<=60)(m:0<=D)(t:s.length<=N):fU R st (K+125) (D+3) (N+8) l st':=by
 have d:=h.shape j m;have p:=h.live a;cases h with
 |sync items e f u r v w=>unfold bD at f;rw[av e,av i]at f;subst f;exact⟨d.1,d.2.1,by omega,r.op,fun _=>⟨rfl,rfl⟩,fun _=>⟨rfl,rfl⟩⟩
 |fail _ e=>rw[a]at e;cases e
theorem uT.next(j:dV s c D alt)(h:uT s alt c R st K D N (k+1) st' l)(e:st'.ok=true)(C:fV (aR s st' 0)=false)(u:st'.at_<s.length)(a:s.length<=60)(E:0<=D){m:List aA}{f:St}(hi:fU (bU s alt st') st' (K+2) (D+2) (N+8) m f):uT s alt c R st K D N k f (l++m.map aA.down):=by
 have F:=h.live e;cases h with
 |sync items p r I t A J=>
  unfold bD at r;rw[av p,ae (by rw[C];simp)]at r;have v:=lV j E e u t.dL;rw[<-Fb];rcases i:(bU s alt st').2.ok with _|_
  .obtain⟨G,H⟩:=hi.bad i;have w:R=([],(bU s alt st').2):=by
    rw[<-r];cases k with
    |zero=>rfl
    |succ k=>unfold bD;rw[ae (by rw[i];simp)]
   have z:=oV (top:=node 0 0 0 false false []) (parts:=items++[m]) rfl (show 0<=D+2 by omega) (by
    intro l a x d;rcases iN.1 a with a|a
    .exact A l a x d
    .simp at a;subst a;exact hi.deep x d);have B:(items++[m]).flatten.length<=2*(st'.at_-st.at_)+(K+2):=by rw[qK,ai,Dr];have:=hi.len;omega
   refine .fail f _ (by rw[hi.ok];exact i) (by rw[w];exact G) (by rw[w];exact H) (by rw[w];exact i) (hi.op.trans t.op) hi.hi (aG z.1 (by omega)) (fun x d=>⟨(z.2 x d).1,by have:=(z.2 x d).2;omega⟩)
  .obtain⟨rfl,rfl⟩:=hi.good i;have L:=v.2.2 i;have M:=v.2.1.1;have O:=t.mono;refine .sync _ _ i r (by omega) (t.trans v.1) ?_ ?_
   .intro l a x d;rcases iN.1 a with a|a
    .exact A l a x d
    .simp at a;subst a;exact hi.deep x d
   .rw[qK,ai,Dr];omega
 |fail _ p=>rw[e]at p;cases p
end
end RX
structure Qr(w0:World)(rb:Nat)(sv:Value)(s:List Int)(w1:World)(st:RX.St)(v:Value)(l:List RX.aA)(wr:World):Prop where
 q:Qn w0 rb sv s wr st
 only:Only w1 wr rb
 own:uO w1.heap.size w1.heap.size wr v l
 lt:rb<w1.heap.size
section
variable{w0 w1 wr w':World}{rb:Nat}{sv v v':Value}{s:List Int}{st st':RX.St}{l l':List RX.aA}
theorem Qr.call(h:Qr w0 rb sv s w1 st v l wr)(a:Only wr w' rb)(d:QS rb sv w' st'):Qr w0 rb sv s w1 st' v l w':=⟨h.q.step a d,h.only.trans a,h.own.dW (jQ _) (kD a h.lt),h.lt⟩
theorem Qr.ex(h:Qr w0 rb sv s w1 st v l wr)(a:Ext wr w'):Qr w0 rb sv s w1 st v l w':=h.call (iO a rb) (a.heap h.q.blk)
theorem Qr.bZ(h:Qr w0 rb sv s w1 st v l wr):Qr w0 rb sv s w1 (st.bump 1) v l (wr.setCell ⟨rb,1,none⟩ (.int .i64 ((st.at_:Int)+1))):=h.call ((aJ _ rb).set _) h.q.bZ.blk
theorem Qr.app(h:Qr w0 rb sv s w1 st v l wr)(i:uO w1.heap.size w1.heap.size w' v' l')(a:wr.grownBy w' v.ownBlock):Qr w0 rb sv s w1 st v' l' w':=by have d:∀k,v.ownBlock=some k->w1.heap.size<=k:=fun k f=>(h.own.lt k f).1;refine⟨⟨h.q.sl,h.q.lo,h.q.len,h.q.pos,h.q.ext.grown a (fun k f=>by have:=d k f;have:=h.lt;have:=h.q.lo;omega),?_⟩,Only.own (nb:=w1.heap.size) h.only a d (az _),i,h.lt⟩;exact(a.block rb h.q.jk (by intro e;have:=d rb e.symm;have:=h.lt;omega)).trans h.q.blk
theorem Lv{B b:Nat}{w f:World}{v a:Value}{l more:List RX.aA}(h:uO B b w v l)(i:dI w.heap.size w.heap.size f a more):∀g o n c,a=.slice (some ⟨g,o,none⟩) n c->v.ownBlock≠some g:=by intro g o n c j k;obtain⟨A,r,e,-,-,-,m⟩:=i;rw[j]at e;injection e with p _ _;obtain⟨_,_,_,d,t,-⟩:=m _ p.symm;injection d with d _ _;have:=(h.lt _ k).2;omega
end
section
variable{w0:World}{rb:Nat}{sv:Value}{s:List Int}
theorem VM(n:Nat)(alt:RX.St->List RX.aA×RX.St){c K:Nat}{D:Int}{N:Nat}(I:RX.dV s c D alt)(HA:∀m,n=m+1->Ou w0 rb sv s m alt K D N)(hK:K<=10000)(hD:0<=D/\D<=100)(hN:s.length+4<=N/\N<=400)(u:World)(st:RX.St)(S:Qn w0 rb sv s u st)(T:st.ok=true)(ha:st.at_<=s.length)(h9:st.aC<=9)(U:st.op+n=12):Calls Tryz.prog 105 #[.pointer (some ⟨rb,0,none⟩)] u (QP rb sv u (RX.rowP s alt st) st (K+125) (D+3) (N+8)):=by
 have oF:=S.len;have hrb:=S.jk;have Sc:=jd S.pos;have kJ:=jd (show Qb w0 rb sv s u st u from⟨S,aJ _ _⟩);obtain⟨R,hR⟩:∃x,RX.rowP s alt st=x:=⟨_,rfl⟩;rw[hR];have HS:=jd (RX.uT.start (c:=c) (K:=K) (D:=D) (N:=N) T ha h9 (show RX.bD s alt (s.length+2-st.at_) st []=R from hR) (by omega));have Yt:=jd U;have HIT:=jd (fun w i h V Q B h4=>Sl n alt HA hK hD hN w i h V Q B h4);have Yu:=jd I;clear S T hR HA U I;go_enter Tryz.func105,Tryz.ntmps105;go_upto_region 2 with fail;have dY:=jd (show Qr w0 rb sv s u st (.slice (some ⟨u.heap.size,0,none⟩) 1 1) [RX.node 0 0 0 false false []] _ from⟨(kJ.o.ex ((aa u).alloc (.cells #[.int .i64 0,.int .i64 0,.int .i64 0,.int .i64 0,.bool false,.bool false,.slice none 0 0] 126))).q,iO ((aa u).alloc _) rb,Dl rfl (az _) CR.FW,hrb⟩);generalize u.alloc _=w2 at dY⊢;go_wp2_with fail;go_loopg[3](s.length+2-st.at_)(fun k v wr=>∃(i:RX.St)(l:List RX.aA),Qr w0 rb sv s u i v l wr/\RX.uT s alt c R st K D N k i l);case atStart=>exact⟨st,_,dY.o,HS.o⟩
 case round=>
  obtain⟨i,l,E,d⟩:=hrel;have C:=jd E;have HRW:=jd d;obtain⟨Al,cl,rfl,-⟩:=E.own.form;have O:=d.shape oF hD.1;have T9:=jd O;have hln:=O.1;have BO:=jd E.own.lt;clear E O;rcases p:i.ok with _|_
  .have J:=jd p;have X:=jd (d.o p);clear p d;go_wp2_with(go_at_call 90;refine(dX _ _ C.o.q).mono ?_;rw[J.o];rintro e w4⟨rfl,a⟩;have r:=jd (C.o.ex a);clear a);go_ret;exact⟨_,_,_,rfl,r.o.own.sl,r.o.q.blk,r.o.only,X.o⟩
  have J:=jd p;have z:=d.live p;have HLV:=jd z;have hlp:=z.2.2.2;obtain⟨k,rfl⟩:∃k,gk=k+1:=⟨gk-1,by have:=z.2.2.1;have:=z.1;omega⟩;obtain⟨j,t⟩:∃x,RX.aR s i 0=x:=⟨_,rfl⟩;have F:=jd t;have G:j=-1\/0<=j:=by
   rw[<-t];unfold RX.aR;rcases a:s[i.at_+0]? with _|x
   .exact .inl rfl
   .exact .inr (Sc.o x (tJ a))
  rcases f:RX.fV j with _|_;rotate_left
  .have X:=jd (d.stop p (by rw[t];exact f) oF hD.1 (by omega));have B:j=-1\/j=124\/j=41:=by unfold RX.fV at f;simp at f;omega
   clear p d z t f;by_cases V:j=-1
   .have d0:decide ((0:Int)<=j)=false:=by simp;omega
    clear V B G;go_wp2_with(first|(go_at_call 90;refine(dX _ _ C.o.q).mono ?_;rw[J.o];rintro e w4⟨rfl,a⟩;have r:=jd (C.o.ex a);clear a)|(go_at_call 106;refine(dz _ _ r.o.q).mono ?_;rw[F.o];rintro e w5⟨rfl,a⟩;have A:=jd (r.o.ex a);clear a));go_ret;exact⟨_,_,_,rfl,A.o.own.sl,A.o.q.blk,A.o.only,X.o⟩
   have d0:decide ((0:Int)<=j)=true:=by simp;omega
   by_cases Q:j=124
   .have b1:(j !=124)=false:=by simpa using Q
    clear V Q B G;go_wp2_with(first|(go_at_call 90;refine(dX _ _ C.o.q).mono ?_;rw[J.o];rintro e w4⟨rfl,a⟩;have r:=jd (C.o.ex a);clear a)|(go_at_call 106;refine(dz _ _ r.o.q).mono ?_;rw[F.o];rintro e w5⟨rfl,a⟩;have A:=jd (r.o.ex a);clear a)|(go_at_call 106;refine(dz _ _ A.o.q).mono ?_;rw[F.o];rintro e w6⟨rfl,a⟩;have H:=jd (A.o.ex a);clear a));go_ret;exact⟨_,_,_,rfl,H.o.own.sl,H.o.q.blk,H.o.only,X.o⟩
   .have b1:(j !=124)=true:=by simpa using Q
    have b2:(j !=41)=false:=by
     have:j=41:=by omega
     simpa using this
    clear V Q B G;go_wp2_with(first|(go_at_call 90;refine(dX _ _ C.o.q).mono ?_;rw[J.o];rintro e w4⟨rfl,a⟩;have r:=jd (C.o.ex a);clear a)|(go_at_call 106;refine(dz _ _ r.o.q).mono ?_;rw[F.o];rintro e w5⟨rfl,a⟩;have A:=jd (r.o.ex a);clear a)|(go_at_call 106;refine(dz _ _ A.o.q).mono ?_;rw[F.o];rintro e w6⟨rfl,a⟩;have H:=jd (A.o.ex a);clear a)|(go_at_call 106;refine(dz _ _ H.o.q).mono ?_;rw[F.o];rintro e w7⟨rfl,a⟩;have L:=jd (H.o.ex a);clear a));go_ret;exact⟨_,_,_,rfl,L.o.own.sl,L.o.q.blk,L.o.only,X.o⟩
  have B:j≠-1/\j≠124/\j≠41:=by unfold RX.fV at f;simp at f;omega
  have d0:decide ((0:Int)<=j)=true:=by simp;omega
  have b1:(j !=124)=true:=by simpa using B.2.1
  have b2:(j !=41)=true:=by simpa using B.2.2
  have Y:i.at_<s.length:=RX.dN (s:=s) (k:=0) (st:=i) (by rw[t];exact B.1);have mQ:=jd (show RX.fV (RX.aR s i 0)=false by rw[t];exact f);clear p d z t f B G;go_wp2_with(first|(go_at_call 90;refine(dX _ _ C.o.q).mono ?_;rw[J.o];rintro e w4⟨rfl,a⟩;have r:=jd (C.o.ex a);clear a)|(go_at_call 106;refine(dz _ _ r.o.q).mono ?_;rw[F.o];rintro e w5⟨rfl,a⟩;have A:=jd (r.o.ex a);clear a)|(go_at_call 106;refine(dz _ _ A.o.q).mono ?_;rw[F.o];rintro e w6⟨rfl,a⟩;have H:=jd (A.o.ex a);clear a)|(go_at_call 106;refine(dz _ _ H.o.q).mono ?_;rw[F.o];rintro e w7⟨rfl,a⟩;have L:=jd (H.o.ex a);clear a)|(go_at_call 124;refine(HIT.o _ _ L.o.q J.o Y HLV.o.2.1 (by rw[T9.o.2.2];exact Yt.o)).mono ?_;rintro e w8⟨li,vi,sti,rfl,hv,hq,ho,M⟩;have lv:=jd (L.o.call ho hq);have R5:=jd (Lv L.o.own hv);have HVI:=jd (jV hv L.o.only.size);have P:=jd M;obtain⟨Ai,ci,rfl,-⟩:=hv.form;clear hv hq ho M)|(go_at_call 107;refine(x8 u.heap.size u.heap.size u.heap.size l li _ _ _ lv.o.own HVI.o hlp R5.o lv.o.only.size (by have:=P.o.len;omega) (fun y hy=>by have:=P.o.deep y hy;omega)).mono ?_;rintro e w9⟨v9,rfl,Yv,yS⟩;generalize Z:l++li.map RX.aA.down=l2 at Yv;have ow:=jd (lv.o.app Yv yS);have HL2:=jd Z;obtain⟨A9,c9,rfl,-⟩:=Yv.form;clear Yv yS Z));go_roundg k;case measure=>omega
  case rel=>exact⟨sti,l2,ow.o,by rw[<-HL2.o];exact HRW.o.next Yu.o J.o mQ.o Y oF hD.1 P.o⟩
end
namespace RX
inductive yh(s:List Int)(alt:St->List aA×St)(c:Nat)(Q:List (List aA)×St)(st:St)(K:Nat)(D:Int)(N:Nat)(k:Nat):St->List aA->Prop
|sync(st':St)(rows:List (List aA)):st'.ok=true->bA s alt k st' rows=Q->s.length+1<=k+st'.at_->iC s (c+1) st st'->(∀l∈rows,∀x∈l,0<=x.deep/\x.deep<=D+3)->rows.flatten.length<=2*(st'.at_-st.at_)+1->(1<=rows.length/\(rows.length=1->aR s st' 0=124))->yh s alt c Q st K D N k st' (under (node 1 0 0 false false []) rows)
|fail(st':St)(l:List aA):st'.ok=false->st'.code=Q.2.code->st'.gL=Q.2.gL->Q.2.ok=false->st'.op=st.op->st'.at_<=N+8->l.length<=K+250->(∀x∈l,0<=x.deep/\x.deep<=D+4)->yh s alt c Q st K D N k st' l
section
variable{s:List Int}{alt:St->List aA×St}{c:Nat}{st st':St}{K:Nat}{D:Int}{N k:Nat}{l:List aA}
theorem Lx(s:List Int)(alt:St->List aA×St)(st:St):oD s alt st=(if(bA s alt (s.length+2-(rowP s alt st).2.at_) (rowP s alt st).2 [(rowP s alt st).1]).1.length=1 then(bA s alt (s.length+2-(rowP s alt st).2.at_) (rowP s alt st).2 [(rowP s alt st).1]).1.headD []else under (node 1 0 0 false false []) (bA s alt (s.length+2-(rowP s alt st).2.at_) (rowP s alt st).2 [(rowP s alt st).1]).1,(bA s alt (s.length+2-(rowP s alt st).2.at_) (rowP s alt st).2 [(rowP s alt st).1]).2):=rfl
theorem qf{k:Nat}{st:St}{a:List (List aA)}(h:st.ok=false\/aR s st 0≠124):bA s alt k st a=(a,st):=by
 cases k with
 |zero=>rfl
 |succ k=>
  unfold bA;rw[ae (by
   intro d;simp only[jR,jf]at d;rcases h with h|h
   .rw[d.1]at h;cases h
   .exact h d.2)]
theorem VN{lr:List aA}{a:St}(h:fU (rowP s alt st) st (K+125) (D+3) (N+8) lr a)(d:aR s a 0≠124):fU (oD s alt st) st (K+250) (D+4) (N+9) lr a:=by
 have e:oD s alt st=((rowP s alt st).1,(rowP s alt st).2):=by
  rw[Lx];have f:(rowP s alt st).2.ok=false\/aR s (rowP s alt st).2 0≠124:=by
   rcases i:(rowP s alt st).2.ok with _|_
   .exact .inl rfl
   .right;rw[<-(h.good i).2];exact d
  rw[qf f];rfl
 rw[e];exact h.mono (by omega) (by omega) (by omega)
theorem yh.start(e:dV s c D alt)(m:0<=D)(p:st.at_<=s.length)(r:st.aC<=9){lr:List aA}{a:St}(h:fU (rowP s alt st) st (K+125) (D+3) (N+8) lr a)(t:aR s a 0=124):yh s alt c (bA s alt (s.length+2-(rowP s alt st).2.at_) (rowP s alt st).2 [(rowP s alt st).1]) st K D N (s.length+2-a.at_) a (node 1 0 0 false false []::lr.map aA.down):=by
 have i:=jm e m p r;rcases d:(rowP s alt st).2.ok with _|_
 .rw[qf (.inl d)];obtain⟨u,v⟩:=h.bad d;refine .fail _ _ (by rw[h.ok];exact d) u v d h.op h.hi ?_ ?_
  .have:=h.len;simp;omega
  .intro x f;rcases List.mem_cons.1 f with rfl|f
   .exact⟨tK _,by show(0:Int)<=D+4;omega⟩
   .obtain⟨y,w,rfl⟩:=xu.1 f;have:=h.deep y w;exact⟨by show 0<=y.deep+1;omega,by show y.deep+1<=D+4;omega⟩
 .obtain⟨rfl,rfl⟩:=h.good d;have z:=i.1.yA d;rw[<-Bb];exact .sync _ _ d rfl (by omega) i.1 (by intro l j x f;simp at j;subst j;exact i.2.2 x f) (by simpa using i.2.1) ⟨az _,fun _=>t⟩
variable{Q:List (List aA)×St}
theorem yh.shape(h:yh s alt c Q st K D N k st' l)(p:s.length<=60)(r:0<=D):l.length<=K+250/\(∀x∈l,0<=x.deep/\x.deep<=D+4)/\st'.op=st.op:=by
 cases h with
 |sync e j t u f a v d=>have:=oV (top:=node 1 0 0 false false []) rfl (show 0<=D+3 by omega) a;have d:=f.yA j;refine⟨aG this.1 (by omega),fun x i=>⟨(this.2 x i).1,by have:=(this.2 x i).2;omega⟩,f.op⟩
 |fail _ _ _ _ _ a _ d m=>exact⟨d,m,a⟩
theorem yh.live(h:yh s alt c Q st K D N k st' l)(d:st'.ok=true):st'.at_<=s.length/\st'.aC<=9/\s.length+1<=k+st'.at_/\0<l.length:=by
 cases h with
 |sync _ a i f e=>exact⟨e.yA a,e.dL,f,Nat.succ_pos _⟩
 |fail _ a=>rw[d]at a;cases a
theorem yh.stop(h:yh s alt c Q st K D N k st' l)(u:st'.ok=false\/aR s st' 0≠124)(v:s.length<=60)(w:0<=D)(A:s.length<=N):fU (if Q.1.length=1 then Q.1.headD []else under (node 1 0 0 false false []) Q.1,Q.2) st (K+250) (D+4) (N+9) l st':=by
 have a:=h.shape v w;cases h with
 |sync i j d m e p z f=>have r:aR s st' 0≠124:=u.resolve_left (by rw[j];simp);rw[qf (.inr r)]at d;subst d;have t:=e.yA j;rw[ae (fun h=>r (f.2 h))];exact⟨a.1,a.2.1,by omega,e.op,fun _=>⟨rfl,rfl⟩,fun _=>⟨rfl,rfl⟩⟩
 |fail _ _ d m e p z f t=>exact⟨f,t,by omega,p,(fun h=>by rw[e]at h;cases h),fun _=>⟨d,m⟩⟩
theorem yh.next(m:dV s c D alt)(h:yh s alt c Q st K D N (k+1) st' l)(u:st'.ok=true)(C:aR s st' 0=124)(p:st'.at_<s.length)(a:s.length<=60)(E:0<=D){lr:List aA}{f:St}(hi:fU (rowP s alt (st'.bump 1)) (st'.bump 1) (K+125) (D+3) (N+8) lr f):yh s alt c Q st K D N k f (l++lr.map aA.down):=by
 cases h with
 |sync d r i M v z O F=>
  unfold bA at i;rw[av (by rw[r,C];rfl)]at i;have A:=v.bump 1 p;have G:(st'.bump 1).at_=st'.at_+1:=rfl;have t:=jm m E (st:=st'.bump 1) p A.dL;have H:=F.1;rw[<-Fb];rcases j:(rowP s alt (st'.bump 1)).2.ok with _|_
  .obtain⟨I,J⟩:=hi.bad j;rw[qf (.inl j)]at i;have w:=oV (top:=node 1 0 0 false false []) (parts:=d++[lr]) rfl (show 0<=D+3 by omega) (by
    intro l a x e;rcases iN.1 a with a|a
    .exact z l a x e
    .simp at a;subst a;exact hi.deep x e);have B:(d++[lr]).flatten.length<=2*(st'.at_-st.at_)+1+(K+125):=by rw[qK,ai,Dr];have:=hi.len;omega
   refine .fail f _ (by rw[hi.ok];exact j) (by rw[<-i];exact I) (by rw[<-i];exact J) (by rw[<-i];exact j) (hi.op.trans v.op) hi.hi (aG w.1 (by omega)) (fun x e=>⟨(w.2 x e).1,by have:=(w.2 x e).2;omega⟩)
  .obtain⟨rfl,rfl⟩:=hi.good j;have P:=t.2.1;have R:=v.mono;have L:=t.1.mono;refine .sync _ _ j i (by omega) (A.trans t.1) ?_ ?_ ?_
   .intro l a x e;rcases iN.1 a with a|a
    .exact z l a x e
    .simp at a;subst a;exact t.2.2 x e
   .rw[qK,ai,Dr];omega
   .rw[ai];simp only[aF,aN];exact⟨by omega,fun h=>by omega⟩
 |fail _ r=>rw[u]at r;cases r
end
end RX
section
variable{w0:World}{rb:Nat}{sv:Value}{s:List Int}
theorem LA(n:Nat)(alt:RX.St->List RX.aA×RX.St){c K:Nat}{D:Int}{N:Nat}(t:RX.dV s c D alt)(HA:∀m,n=m+1->Ou w0 rb sv s m alt K D N)(hK:K<=10000)(S:0<=D/\D<=100)(hN:s.length+4<=N/\N<=400):Ou w0 rb sv s n (RX.oD s alt) (K+250) (D+4) (N+9):=by
 intro G st he Y ha h9 Z;have oF:=he.len;have hrb:=he.jk;have kJ:=jd (show Qb w0 rb sv s G st G from⟨he,aJ _ _⟩);obtain⟨R,hR⟩:∃x,RX.oD s alt st=x:=⟨_,rfl⟩;have HR:=jd hR;rw[hR];have Yt:=jd Z;have kM:=jd Y;have X5:=jd (fun w i h h1 h2 h3 h4=>VM n alt t HA hK S hN w i h h1 h2 h3 h4);have Yu:=jd t;have HH:=jd (And.intro ha h9);clear he Y hR HA Z t;go_enter Tryz.func89,Tryz.ntmps89;go_upto_region 2 with(go_at_call 105;refine(X5.o _ _ kJ.o.q kM.o ha h9 Yt.o).mono ?_;rintro e w2⟨lr,vr,A,rfl,H,hq,ho,j⟩;have dY:=jd (kJ.o.call ho hq);have WN:=jd H;have gU:=jd j;obtain⟨Ar,cr,rfl,-⟩:=H.form;clear H hq ho j);obtain⟨c2,u⟩:∃x,RX.aR s A 0=x:=⟨_,rfl⟩;have rA:=jd u;by_cases T:c2=124;rotate_left
 .have Yw:(c2 !=124)=true:=by simpa using T
  have HQ:=jd (RX.VN gU.o (by rw[u];exact T));clear u T;go_wp2_with(go_at_call 106;refine(dz _ _ dY.o.q).mono ?_;rw[rA.o];rintro e w3⟨rfl,d⟩;have U:=jd (dY.o.ex d);have lF:=jd (WN.o.keep (dE _) (au d) (au d));clear d);go_ret;exact⟨_,_,_,rfl,lF.o,U.o.q.blk,U.o.only,by rw[<-HR.o];exact HQ.o⟩
 have Yw:(c2 !=124)=false:=by simpa using T
 have HS:=jd (RX.yh.start Yu.o S.1 ha h9 gU.o (u.trans T));have C:=HR.o;rw[RX.Lx]at C;generalize RX.bA s alt (s.length+2-(RX.rowP s alt st).2.at_) (RX.rowP s alt st).2 [(RX.rowP s alt st).1]=Q at HS C;have HR2:=jd C;have hbz:=dY.o.only.size;obtain⟨l4,I⟩:∃x,RX.node 1 0 0 false false []::lr.map RX.aA.down=x:=⟨_,rfl⟩;rw[I]at HS;have Na:=jd I;clear u T C I;go_wp2_with(first|(go_at_call 106;refine(dz _ _ dY.o.q).mono ?_;rw[rA.o];rintro e w3⟨rfl,d⟩;have U:=jd (dY.o.ex d);have lF:=jd (WN.o.keep (dE _) (au d) (au d));clear d)|(go_at_call 107;refine(ik (B:=G.heap.size) _ (RX.node 1 0 0 false false []) _ lr _ CR.FW lF.o U.o.only.size (by have:=gU.o.len;omega) (fun y hy=>by have:=gU.o.deep y hy;omega)).mono ?_;rintro e w4⟨v4,rfl,E,J⟩;rw[Na.o]at E;have bS:=jd (show Qr w0 rb sv s G A v4 l4 w4 from⟨(U.o.ex J).q,(U.o.ex J).only,E,hrb⟩);obtain⟨A4,c4,rfl,-⟩:=E.form;clear E J));go_loopg[4](s.length+2-A.at_)(fun k v wr=>∃(i:RX.St)(l:List RX.aA),Qr w0 rb sv s G i v l wr/\RX.yh s alt c Q st K D N k i l);case atStart=>exact⟨A,l4,bS.o,HS.o⟩
 case round=>
  obtain⟨i,l,L,a⟩:=hrel;have V:=jd L;have HRW:=jd a;obtain⟨Al,cl,rfl,-⟩:=L.own.form;have M:=a.shape oF S.1;have T9:=jd M;have hln:=M.1;clear L M;rcases p:i.ok with _|_
  .have X:=jd p;have HQ:=jd (a.stop (.inl p) oF S.1 (by omega));clear p a;go_wp2_with(go_at_call 90;refine(dX _ _ V.o.q).mono ?_;rw[X.o];rintro e w6⟨rfl,d⟩;have F:=jd (V.o.ex d);clear d);go_ret;exact⟨_,_,_,rfl,F.o.own.sl,F.o.q.blk,F.o.only,by rw[<-HR2.o];exact HQ.o⟩
  have X:=jd p;have z:=a.live p;have HLV:=jd z;have hlp:=z.2.2.2;obtain⟨cn,r⟩:∃x,RX.aR s i 0=x:=⟨_,rfl⟩;have HN:=jd r;by_cases f:cn=124;rotate_left
  .have HQ:=jd (a.stop (.inr (by rw[r];exact f)) oF S.1 (by omega));have b1:(cn==124)=false:=by simpa using f
   clear p a z r f;go_wp2_with(first|(go_at_call 90;refine(dX _ _ V.o.q).mono ?_;rw[X.o];rintro e w6⟨rfl,d⟩;have F:=jd (V.o.ex d);clear d)|(go_at_call 106;refine(dz _ _ F.o.q).mono ?_;rw[HN.o];rintro e w7⟨rfl,d⟩;have O:=jd (F.o.ex d);clear d));go_ret;exact⟨_,_,_,rfl,O.o.own.sl,O.o.q.blk,O.o.only,by rw[<-HR2.o];exact HQ.o⟩
  have b1:(cn==124)=true:=by simpa using f
  have hlt:i.at_<s.length:=RX.dN (s:=s) (k:=0) (st:=i) (by rw[r,f];decide);obtain⟨k,rfl⟩:∃k,gk=k+1:=⟨gk-1,by have:=z.2.2.1;omega⟩;have mQ:=jd (r.trans f);clear p a z r f;go_upto_region 6 with(first|(go_at_call 90;refine(dX _ _ V.o.q).mono ?_;rw[X.o];rintro e w6⟨rfl,d⟩;have F:=jd (V.o.ex d);clear d)|(go_at_call 106;refine(dz _ _ F.o.q).mono ?_;rw[HN.o];rintro e w7⟨rfl,d⟩;have O:=jd (F.o.ex d);clear d));have c1:=O.o.q.blk.c1;have f1:=O.o.q.blk.fr 1;go_upto_region 7 with fail;have lv:=jd O.o.bZ;generalize w7.setCell _ _=w8 at lv⊢;clear c1 f1;go_wp2_with(first|(go_at_call 105;refine(X5.o _ _ lv.o.q X.o hlt HLV.o.2.1 (by show i.op+n=12;rw[T9.o.2.2];exact Yt.o)).mono ?_;rintro e w9⟨li,vi,sti,rfl,H,hq,ho,j⟩;have ow:=jd (lv.o.call ho hq);have R5:=jd (Lv lv.o.own H);have HVI:=jd (jV H lv.o.only.size);have P:=jd j;obtain⟨Ai,ci,rfl,-⟩:=H.form;clear H hq ho j)|(go_at_call 107;refine(x8 G.heap.size G.heap.size G.heap.size l li _ _ _ ow.o.own HVI.o hlp R5.o ow.o.only.size (by have:=P.o.len;omega) (fun y hy=>by have:=P.o.deep y hy;omega)).mono ?_;rintro e wA⟨v9,rfl,Yv,yS⟩;generalize hl2:l++li.map RX.aA.down=l2 at Yv;have zA:=jd (ow.o.app Yv yS);have HL2:=jd hl2;obtain⟨A9,c9,rfl,-⟩:=Yv.form;clear Yv yS hl2));go_roundg k;case measure=>omega
  case rel=>exact⟨sti,l2,zA.o,by rw[<-HL2.o];exact HRW.o.next Yu.o X.o mQ.o hlt oF S.1 P.o⟩
end
theorem ZA{w0:World}{rb:Nat}{sv:Value}{s:List Int}(d:s.length<=60):∀n,n<=12->Ou w0 rb sv s n (RX.gV s n) (250*(n+1)) (4*n+4) (s.length+4+9*(n+1))
|0,_=>by have h:=LA (w0:=w0) (rb:=rb) (sv:=sv) (s:=s) 0 (fun st=>([],st)) (c:=1) (K:=0) (D:=0) (N:=s.length+4) RX.dV.stub (fun m a=>by cases a) (by omega) (by omega) (by omega);exact h
|n+1,e=>by have h:=LA (w0:=w0) (rb:=rb) (sv:=sv) (s:=s) (n+1) (RX.gV s n) (RX.rH s n) (fun m a=>by injection a with a;subst a;exact ZA d n (by omega)) (by omega) (by omega) (by omega);rw[show 250*(n+1)+250=250*(n+1+1)by omega,show(4*(n:Int)+4)+4=4*((n+1:Nat):Int)+4 by omega,show s.length+4+9*(n+1)+9=s.length+4+9*(n+1+1)by omega]at h;exact h
theorem yj(x:Int):(RX.bE x==0)=!RX.aQ x:=by
 unfold RX.bE;rcases h:RX.aQ x with _|_
 .simp
 .simp only[ae (show¬(true=false)by decide)];split
  .rfl
  split
  .rfl
  split
  .rfl
  split
  .rfl
  .rfl
theorem VO{x:Int}(h:RX.aQ x=true):0<=x:=by unfold RX.aQ at h;simp only[jR,jf]at h;exact h.1.1
theorem Oy{s:List Int}{k:Nat}{x:Int}(a:s[k]?=some x)(d:RX.aQ x=false)(e:∀j,j<k->∀x,s[j]?=some x->RX.aQ x=true):s.findIdx? (fun c=>RX.bE c==0)=some k:=by obtain⟨f,a⟩:=dh.1 a;rw[List.findIdx?_eq_some_iff_getElem];refine⟨f,by rw[yj,a,d];rfl,fun j h=>?_⟩;rw[yj,e j h _ (aU (by omega))];decide
theorem Oz{s:List Int}(a:∀x∈s,RX.aQ x=true):s.findIdx? (fun c=>RX.bE c==0)=none:=by rw[List.findIdx?_eq_none_iff];intro x d;rw[yj,a x d];rfl
structure Pq(w:World)(nb:Nat)(s:List Int)(sv:Value)(st:RX.St)(vl:Value)(l:List RX.aA)(wr:World):Prop where
 q:Qn (w.alloc (.cells #[.int .i64 0,.int .i64 0] 31)) (nb+1) sv s wr st
 ext:Ext w wr
 box:wr.heap[nb]?=some (.cells #[.int .i64 0,.int .i64 0] 31 (0,0))
 val:dI (nb+2) (nb+2) wr vl l
 CZ:nb=w.heap.size
section
variable{w wr w':World}{nb:Nat}{s:List Int}{sv vl II:Value}{st st':RX.St}{l l':List RX.aA}
theorem Pq.call(h:Pq w nb s sv st vl l wr)(a:Only wr w' (nb+1))(d:QS (nb+1) sv w' st'):Pq w nb s sv st' vl l w':=⟨h.q.step a d,h.ext.only a (by have:=h.CZ;omega),(a.block nb (ag h.box) (by intro e;injection e with e;omega)).trans h.box,aT.only h.val (jQ _) a,h.CZ⟩
theorem Pq.ex(h:Pq w nb s sv st vl l wr)(a:Ext wr w'):Pq w nb s sv st vl l w':=h.call (iO a _) (a.heap h.q.blk)
theorem Pq.JS(h:Pq w nb s sv st vl l wr)(a:dI (nb+2) (nb+2) wr II l'):Pq w nb s sv st II l' wr:=⟨h.q,h.ext,h.box,a,h.CZ⟩
theorem Pq.done{n:Nat}{x y:Value}(h:Pq w nb s sv st vl l wr):dI w.heap.size w.heap.size (((wr.drewN n).setCell ⟨nb,0,none⟩ x).setCell ⟨nb,1,none⟩ y) vl l/\Ext w (((wr.drewN n).setCell ⟨nb,0,none⟩ x).setCell ⟨nb,1,none⟩ y):=by have d:=h.CZ;have a:Only wr (((wr.drewN n).setCell ⟨nb,0,none⟩ x).setCell ⟨nb,1,none⟩ y) nb:=(((aJ _ _).drewN n).set _).set _;exact⟨jV (aT.dW h.val (jQ _) (kD a (by omega))) (by omega),h.ext.only a (by omega)⟩
end
theorem MO(s:List Int)(v:Value)(w:World)(G:ib w v s):Calls Tryz.prog 69 #[v] w (UN s w):=by
 obtain⟨A,c,rfl,hlc,hcm,_⟩:=id G;by_cases p:60<s.length
 .have hP:=jd (show RX.parse s=([],3,60)by unfold RX.parse;rw[av p]);have H:decide ((60:Int)<s.length)=true:=by simp;omega
  clear G;go_enter Tryz.func69,Tryz.ntmps69;go_wp2_with fail;refine bC (v:=.tuple #[.slice none 0 0,.agg #[.int .i64 3,.int .i64 60]]) (by simp[results,Tryz.results69,go_sem]) rfl ?_;exact⟨_,_,rfl,by rw[hP.o];exact⟨aS,rfl⟩,(aa w).alloc _⟩
 have H:decide ((60:Int)<s.length)=false:=by simp;omega
 have oF:s.length<=60:=by omega
 have HS:=jd (G.ext ((aa w).alloc (.cells #[.int .i64 0,.int .i64 0] 31)));have HP:=jd (show RX.parse s=match s.findIdx? (fun c=>RX.bE c==0)with|some i=>([],1,(i:Int))|none=>let r:=RX.gV s 12 ⟨0,0,0,0,0⟩;let st:=if r.2.ok=true/\r.2.at_<s.length then r.2.fail 5 r.2.at_ else r.2;if st.ok then(r.1,0,0)else([],st.code,st.gL)from by unfold RX.parse;rw[ae p];rfl);clear G p;go_enter Tryz.func69,Tryz.ntmps69;go_wp2_with fail;go_loop[4](fun i=>∃k:Nat,k<=s.length/\i=.int .i64 k/\∀j,j<k->∀x,s[j]?=some x->RX.aQ x=true)(fun i=>s.length-(intOf i).toNat);case atStart=>exact⟨0,aL _,rfl,by intro j hj;omega⟩
 case round=>
  obtain⟨k,hk,rfl,I⟩:=hrel;have xE:=jd I;clear I;by_cases K:k<s.length
  .obtain⟨b,o,rfl,hc⟩:=HS.o.at_ (k:=k) K;have hki:(k:Int)<(s.length:Int):=by omega
   have R:decide ((k:Int)<(s.length:Int))=true:=bJ hki;have hg:s[k]?=some s[k]:=aU K;generalize s[k]=x at hc hg;have HG:=jd hg;clear hg;rcases E:RX.aQ x with _|_
   .have S:=jd E;clear E;go_wp2_with(go_at_call 23;refine(iR x _).mono ?_;rw[S.o];rintro e w3⟨rfl,rfl⟩);have d:=HP.o;rw[Oy HG.o S.o xE.o]at d;refine bC (v:=.tuple #[.slice none 0 0,.agg #[.int .i64 1,.int .i64 k]]) (by simp[results,Tryz.results69,go_sem]) rfl ?_;exact⟨_,_,rfl,by rw[d];exact⟨aS,rfl⟩,(aa w).alloc _⟩
   .have S:=jd E;clear E;go_wp2_with(go_at_call 23;refine(iR x _).mono ?_;rw[S.o];rintro e w3⟨rfl,rfl⟩);go_round;case rel=>
     exact⟨k+1,by omega,by go_num,by
      intro j hj y T;rcases Nat.lt_succ_iff_lt_or_eq.1 hj with h|rfl
      .exact xE.o j h y T
      .rw[HG.o]at T;injection T with T;rw[<-T];exact S.o⟩
    case measure=>simp[intOf];omega
  .have R:decide ((k:Int)<(s.length:Int))=false:=by simp;omega
   go_upto_region 9 with fail;have t:∀x∈s,RX.aQ x=true:=by intro x a;obtain⟨j,hj,e⟩:=um.1 a;exact xE.o j (by omega) x (by rw[aU hj,e])
   have d:=HP.o;rw[Oz t]at d;dsimp only at d;obtain⟨N,u⟩:∃N,N=w.heap.size:=⟨_,rfl⟩;have kJ:=jd (show Pq w N s (.slice A s.length c) ⟨0,0,0,0,0⟩ (.slice none 0 0) [] ((w.alloc (.cells #[.int .i64 0,.int .i64 0] 31)).alloc (.cells #[.slice A s.length c,.int .i64 0,.int .i64 0,.int .i64 0,.int .i64 0,.int .i64 0] 122))from⟨⟨HS.o,by simp;omega,oF,fun x a=>VO (t x a),(aa _).alloc _,by have:=aB (w.alloc (.cells #[.int .i64 0,.int .i64 0] 31)) (.cells #[.slice A s.length c,.int .i64 0,.int .i64 0,.int .i64 0,.int .i64 0,.int .i64 0] 122);rw[show N+1=(w.alloc (.cells #[.int .i64 0,.int .i64 0] 31)).heap.size by simp;omega];exact this⟩,((aa w).alloc _).alloc _,((aa _).alloc _).heap (u▸aB w _),aS,u⟩);have Tg:=jd (ZA (w0:=w.alloc (.cells #[.int .i64 0,.int .i64 0] 31)) (rb:=N+1) (sv:=.slice A s.length c) (s:=s) oF 12 (az _));generalize hr:RX.gV s 12 ⟨0,0,0,0,0⟩=r at d;generalize D:(if r.2.ok=true/\r.2.at_<s.length then r.2.fail 5 r.2.at_ else r.2)=stq at d;have U:=jd D;have HR:=jd hr;have Y3:=jd d;have mD:=jd u;have V:N+2<=((w.alloc (.cells #[.int .i64 0,.int .i64 0] 31)).alloc (.cells #[.slice A s.length c,.int .i64 0,.int .i64 0,.int .i64 0,.int .i64 0,.int .i64 0] 122)).heap.size:=kJ.o.q.jk;rw[<-u];generalize(w.alloc _).alloc _=w2 at kJ V⊢;clear d hr t R K u D;go_upto_region 10 with(go_at_call 89;refine(Tg.o _ _ kJ.o.q rfl (aL _) (by decide) rfl).mono ?_;rintro e w3⟨l,v,st,rfl,G,X,Y,z⟩;have O:=jd ((kJ.o.call Y X).JS (jV G V));rw[HR.o]at z;have Z:=jd z;obtain⟨Av,cv,rfl,-⟩:=G.form;clear G X Y z);rcases f:st.ok with _|_
   .have P:=jd f;have J:r.2.ok=false:=by rw[<-Z.o.ok];exact f
    have L:=Z.o.bad J;have B:=Y3.o;have hk2:stq=r.2:=by rw[<-U.o,ae (by rw[J];simp)]
    rw[hk2,ae (by rw[J];simp),<-L.1,<-L.2]at B;have Q:=jd B;clear f J L B hk2;go_upto_region 13 with(first|(go_at_call 90;refine(dX _ _ O.o.q).mono ?_;rw[P.o];rintro e w4⟨rfl,a⟩;have C:=jd (O.o.ex a);have c1:=C.o.q.blk.c1;clear a)|(go_at_call 90;refine(dX _ _ C.o.q).mono ?_;rw[P.o];rintro e w5⟨rfl,a⟩;have m:=jd (C.o.ex a);have c1:=m.o.q.blk.c1;clear a));have c4:=m.o.q.blk.c4;have c5:=m.o.q.blk.c5;obtain⟨b0,b1,g0,g1⟩:=PW m.o.box;go_region;all_goals go_wp2_with fail
    all_goals refine bC (v:=.tuple #[.slice none 0 0,.agg #[.int .i64 st.code,.int .i64 st.gL]]) (by simp[results,Tryz.results69,go_sem, *]) rfl ?_
    all_goals
     have H:=m.o.done (n:=1) (x:=.int .i64 st.code) (y:=.int .i64 st.gL);exact⟨_,_,rfl,by rw[Q.o];exact⟨aS,rfl⟩,H.2⟩
   have P:=jd f;have J:r.2.ok=true:=by rw[<-Z.o.ok];exact f
   obtain⟨e1,e2⟩:=Z.o.good J;have B:=Y3.o;have D:=U.o;rw[<-e1]at B;rw[<-e2]at D;have hnl:st.at_<=1000:=by have:=Z.o.hi;omega
   by_cases hat:st.at_<s.length
   .have WM:decide ((st.at_:Int)<(s.length:Int))=true:=by simp;omega
    have M:=RX.VF st st.at_;rw[av ⟨f,hat⟩]at D;rw[<-D,ae (by rw[M];simp)]at B;have Q:=jd B;have FV:=jd M;clear f J e1 e2 B M D;go_upto_region 11 with(go_at_call 90;refine(dX _ _ O.o.q).mono ?_;rw[P.o];rintro e w4⟨rfl,a⟩;have C:=jd (O.o.ex a);have c1:=C.o.q.blk.c1;clear a);go_upto_region 13 with(first|(go_at_call 91;refine(iK _ _ 5 (st.at_:Int) C.o.q).mono ?_;rintro e w6⟨rfl,X,Y⟩;have fe:=jd (C.o.call Y X);clear X Y)|(go_at_call 90;refine(dX _ _ fe.o.q).mono ?_;rw[FV.o];rintro e w5⟨rfl,a⟩;have m:=jd (fe.o.ex a);have c1:=m.o.q.blk.c1;clear a));generalize st.fail 5 (st.at_:Int)=F at m Q;have c4:=m.o.q.blk.c4;have c5:=m.o.q.blk.c5;obtain⟨b0,b1,g0,g1⟩:=PW m.o.box;go_region;all_goals go_wp2_with fail
    all_goals refine bC (v:=.tuple #[.slice none 0 0,.agg #[.int .i64 F.code,.int .i64 F.gL]]) (by simp[results,Tryz.results69,go_sem, *]) rfl ?_
    all_goals
     have H:=m.o.done (n:=1) (x:=.int .i64 F.code) (y:=.int .i64 F.gL);exact⟨_,_,rfl,by rw[Q.o];exact⟨aS,rfl⟩,H.2⟩
   .have WM:decide ((st.at_:Int)<(s.length:Int))=false:=by simp;omega
    rw[ae (fun h=>hat h.2)]at D;rw[<-D,av f]at B;have Q:=jd B;clear f J e1 e2 B D;go_upto_region 14 with(first|(go_at_call 90;refine(dX _ _ O.o.q).mono ?_;rw[P.o];rintro e w4⟨rfl,a⟩;have C:=jd (O.o.ex a);have c1:=C.o.q.blk.c1;clear a)|(go_at_call 90;refine(dX _ _ C.o.q).mono ?_;rw[P.o];rintro e w5⟨rfl,a⟩;have m:=jd (C.o.ex a);have c1:=m.o.q.blk.c1;clear a));obtain⟨b0,b1,g0,g1⟩:=PW m.o.box;go_wp2_with fail;refine bC (v:=.tuple #[.slice Av l.length cv,.agg #[.int .i64 0,.int .i64 0]]) (by simp[results,Tryz.results69,go_sem,b0,b1]) rfl ?_;have H:=m.o.done (n:=0) (x:=.int .i64 0) (y:=.int .i64 0);exact⟨_,_,rfl,by rw[Q.o];exact⟨H.1,rfl⟩,H.2⟩
end Go.Proofs.YtcogknbbbjnaiaaGreatDoor
