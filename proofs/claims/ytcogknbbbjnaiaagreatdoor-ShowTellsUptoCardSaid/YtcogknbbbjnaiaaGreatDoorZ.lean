/- For ShowTells: what the texts XPgX of wip/tpl say. -/
import Derived.Test.YtcogknbbbjnaiaaGreatDoorK
set_option maxRecDepth 100000
set_option maxHeartbeats 16000000
namespace Go.Proofs.YtcogknbbbjnaiaaGreatDoor
open Go.RowKit
structure G9(w:World)(rb ob:Nat)(vo:Value)(no:Int)(wr:World):Prop where
 ext:Ext w wr
 lo:w.heap.size<=rb
 lo2:w.heap.size<=ob
 ne:rb≠ob
 res:wr.heap[rb]?=some (.cells #[.slice none 0 0,.int .i64 0] 150 (0,0))
 o:wr.heap[ob]?=some (.cells #[vo,.int .i64 no] 150 (0,0))
section
variable{w wr w':World}{rb ob:Nat}{vo U6:Value}{no no':Int}
theorem G9.aj(h:G9 w rb ob vo no wr)(a:Ext wr w'):G9 w rb ob vo no w':=⟨h.ext.trans a,h.lo,h.lo2,h.ne,a.heap h.res,a.heap h.o⟩
theorem G9.o0(h:G9 w rb ob vo no wr):wr.cell? ⟨ob,0,none⟩=some vo:=cy 0 h.o
theorem G9.o1(h:G9 w rb ob vo no wr):wr.cell? ⟨ob,1,none⟩=some (.int .i64 no):=cy 1 h.o
theorem G9.fo(h:G9 w rb ob vo no wr)(o:Nat):wr.frozen? ⟨ob,o,none⟩=false:=fq o h.o
theorem G9.r0(h:G9 w rb ob vo no wr):wr.cell? ⟨rb,0,none⟩=some (.slice none 0 0):=cy 0 h.res
theorem G9.r1(h:G9 w rb ob vo no wr):wr.cell? ⟨rb,1,none⟩=some (.int .i64 0):=cy 1 h.res
theorem G9.fr(h:G9 w rb ob vo no wr)(o:Nat):wr.frozen? ⟨rb,o,none⟩=false:=fq o h.res
theorem G9.aan(h:G9 w rb ob vo no wr):G9 w rb ob U6 no' ((wr.setCell ⟨ob,0,none⟩ U6).setCell ⟨ob,1,none⟩ (.int .i64 no')):=⟨(h.ext.set (p:=⟨ob,0,none⟩) h.lo2 _).set (p:=⟨ob,1,none⟩) h.lo2 _,h.lo,h.lo2,h.ne,((gJ h.ne).trans (gJ h.ne)).trans h.res,aP (aP h.o)⟩
end
theorem KZ{S:Nat->Prop}(g:Nat)(f:List PG.Part)(v:Value)(w:World)(hs:Dg S w v f)(hp:∀p∈f,PG.Ok g p)(L:f≠[])(hl:f.length<=1000000000):Calls Tryz.prog 133 #[v] w (lh S (PG.either f) w):=by
 obtain⟨A,c,rfl,hlc,hcc⟩:=hs.form;have HS:=jd hs;have HP:=jd hp;have hpos:1<=f.length:=by
  cases f with
  |nil=>exact absurd rfl L
  |cons a l=>simp
 obtain⟨F,o,cs,rfl,⟨Aq,cq,rfl,M⟩,m⟩:=HS.o.atP (show f.length-1<f.length by omega);have J:w.cell? ⟨F,o+(f.length-1)*2,none⟩=_:=m 0 _ rfl;have N:w.cell? ⟨F,o+(f.length-1)*2+1,none⟩=_:=m 1 _ rfl;have hg0:F<w.heap.size:=iP w ⟨F,o+(f.length-1)*2,none⟩ J;have z:=jd M;have HQ:=jd (show PG.either (f.drop (f.length-1))=f[f.length-1]by rw[ed (by omega),show f.length-1+1=f.length by omega,List.drop_length];rfl);generalize f[f.length-1]=q at J N z HQ;obtain⟨R,hR⟩:∃R,PG.either f=R:=⟨_,rfl⟩;have HR:=jd hR;rw[hR];have t1:((f.length:Int)-1).toNat=f.length-1:=by omega
 have t2:(0:Int)<=(f.length:Int)-1:=by omega
 clear hs hp hR L M m;go_enter Tryz.func133,Tryz.ntmps133;go_upto_region 3 with fail;have r:=jd (show G9 w w.heap.size (w.heap.size+1) (.slice Aq q.l.length cq) (q.n:Int) _ from⟨((aa w).alloc (.cells #[.slice none 0 0,.int .i64 0] 150)).alloc (.cells #[.slice Aq q.l.length cq,.int .i64 (q.n:Int)] 150),az _,Nat.le_succ _,by omega,lq _ _ _,ll _ _ _⟩);generalize(w.alloc (.cells #[.slice none 0 0,.int .i64 0] 150)).alloc (.cells #[.slice Aq q.l.length cq,.int .i64 (q.n:Int)] 150)=w1 at r⊢;generalize w.heap.size+1=ob at r⊢;generalize w.heap.size=rb at r⊢;have z:=jd (z.o.ext r.o.ext);clear J N t1 t2 hg0;go_loopw[4](fun x wr=>∃(i:Int)(k:Nat)(d:PG.Part)(Ao:Option Addr)(co:Nat),x=.int .i64 i/\i=(k:Int)-1/\k<f.length/\PG.either (f.drop k)=d/\lT S wr (.slice Ao d.l.length co) d.l/\G9 w rb ob (.slice Ao d.l.length co) (d.n:Int) wr)(fun x _=>(intOf x+1).toNat);case atStart=>exact⟨_,f.length-1,q,Aq,cq,rfl,by omega,by omega,HQ.o,z.o,r.o⟩
 case round=>
  obtain⟨i,k,d,Ao,co,rfl,hi,hk,hT,O,s⟩:=hrel;have r:=jd s;have HT:=jd hT;have G:=jd O;have H:PG.Ok g d:=by rw[<-hT];exact PG.AJ _ (fun x hx=>HP.o x (List.mem_of_mem_drop hx))
  have HO:=jd H;have hon:=(kN H).le;have o0:=s.o0;have o1:=s.o1;have adQ:ob<wr.heap.size:=ag s.o;have adR:rb<wr.heap.size:=ag s.res;clear s hT O H;rcases k with _|j
  .have HN:=jd (show d=R by rw[<-HT.o,<-HR.o];rfl);have hi2:¬(0<=i):=by omega
   have r0:=r.o.r0;have r1:=r.o.r1;have f0:=r.o.fr 0;have f1:=r.o.fr 1;clear hi;go_wp2_with fail;rw[<-HN.o];refine bC (v:=.agg #[.slice Ao d.l.length co,.int .i64 (d.n:Int)]) (by simp[results,Tryz.results133,go_sem,r0,r1]) rfl ?_;exact l6 r.o.ext r.o.lo r.o.res G.o
  obtain rfl:i=(j:Int):=by omega
  clear hi;have I:j<f.length:=by omega
  have hji:(j:Int)<f.length:=by omega
  obtain⟨g1,o1',cs,hA,⟨Ap,cp,rfl,P⟩,m⟩:=HS.o.atP I;injection hA with hA;injection hA with hA1 hA2;subst hA1 hA2;have J:wr.cell? ⟨F,o+j*2,none⟩=_:=r.o.ext.cell (m 0 _ rfl);have N:wr.cell? ⟨F,o+j*2+1,none⟩=_:=r.o.ext.cell (m 1 _ rfl);have B:=HP.o f[j] (bK I);obtain⟨R2,t⟩:∃R2,PG.row [PG.split ((f[j].n:Int)+2) false,f[j],PG.jump ((d.n:Int)+1),d]=R2:=⟨_,rfl⟩;have Q:=jd (show PG.either (f.drop j)=R2 by rw[ed I,ed hk,PG.either,<-ed hk,HT.o];exact t);have T:=jd P;generalize f[j]=p at T Q t B J N;have hpn:=(kN B).le;obtain⟨p1,U⟩:∃p1,PG.split ((p.n:Int)+2) false=p1:=⟨_,rfl⟩;obtain⟨p2,V⟩:∃p2,PG.jump ((d.n:Int)+1)=p2:=⟨_,rfl⟩;have Cv:=jd (xX ((p.n:Int)+2) false);have HJ:=jd (GY ((d.n:Int)+1));have C:=jd (KM (AO (far:=(p.n:Int)+2) false (by omega)) (kN B) (KW (far:=(d.n:Int)+1) (by omega)) (kN HO.o));rw[U]at Cv C t;rw[V]at HJ C t;have iY:=jd (fun v w(h:Dg S w v [p1,p,p2,d])=>mX [p1,p,p2,d] v w h C.o);rw[t]at iY;clear U V t C P m B;go_upto_region 6 with fail;have s1:IntKind.i64.wrap ((p.n:Int)+2)=(p.n:Int)+2:=jA _ (by omega);have s2:IntKind.i64.wrap ((d.n:Int)+1)=(d.n:Int)+1:=jA _ (by omega);have X:=jd (r.o.aj ((aa wr).alloc (.cells #[.slice Ap p.l.length cp,.int .i64 (p.n:Int)] 150)));have Y:=jd (G.o.ext ((aa wr).alloc (.cells #[.slice Ap p.l.length cp,.int .i64 (p.n:Int)] 150)));have D:=jd (aB wr (.cells #[.slice Ap p.l.length cp,.int .i64 (p.n:Int)] 150));clear J N o0 o1 adQ adR G r;generalize wr.alloc (.cells #[.slice Ap p.l.length cp,.int .i64 (p.n:Int)] 150)=w3 at X D Y⊢;generalize wr.heap.size=pb at D⊢;have o0:=X.o.o0;have o1:=X.o.o1;obtain⟨c0,c1⟩:=WQ D.o;go_region_law(first|(refine vT 145 BL rfl _ _ rfl #[.int .i64 ((p.n:Int)+2),.bool false] ?hvs _ (Cv.o _) ?_;(case hvs=>(simp[go_sem]));rintro e w4⟨E,A2,c2,rfl,Z⟩;refine⟨_,rfl,?_⟩;have bS:=jd (X.o.aj (((aa _).drew).trans E));have HL2:=jd (Z.new (HS.o.1.ext (X.o.ext.trans ((aa _).drew))));have yu:=jd (T.o.ext bS.o.ext);have pG:=jd (Y.o.ext (((aa _).drew).trans E));have aca:=jd ((((aa _).drew).trans E).heap D.o);have o0:=bS.o.o0;have o1:=bS.o.o1;obtain⟨c0,c1⟩:=WQ aca.o;clear Z E)|(refine vT 146 Nz rfl _ _ rfl #[.int .i64 ((d.n:Int)+1)] ?hvs _ (HJ.o _) ?_;(case hvs=>(simp[go_sem]));rintro e w5⟨u,A3,c3,rfl,hl3⟩;refine⟨_,rfl,?_⟩;have cB:=jd (bS.o.aj u);have rE:=jd (hl3.new (HS.o.1.ext bS.o.ext));have adS:=jd (HL2.o.ext u);have yz:=jd (yu.o.ext u);have iM:=jd (pG.o.ext u);have o0:=cB.o.o0;have o1:=cB.o.o1;obtain⟨c0,c1⟩:=WQ (u.heap aca.o);clear hl3 u)|(refine vT 115 GZ rfl _ _ rfl #[.slice (some ⟨w5.heap.size,0,none⟩) 4 4] ?hvs _ (iY.o _ _ (UU rfl adS.o yz.o rE.o iM.o)) ?_;(case hvs=>(simp[go_sem]));rintro e w6⟨hx6,A5,c5,rfl,hl5⟩;refine⟨_,rfl,?_⟩;have rF:=jd hl5;have K:=jd (cB.o.aj (((aa _).alloc _).trans hx6));have o0:=K.o.o0;have o1:=K.o.o1;have F:=K.o.fo 0;have g1:=K.o.fo 1;clear hl5 hx6));all_goals
   go_wp2_with fail;go_roundw;case rel=>exact⟨_,j,R2,A5,c5,rfl,by go_num,by omega,Q.o,rF.o.ab6 K.o.o (by intro x h;cases h),K.o.aan⟩
   case measure=>simp[intOf]
end Go.Proofs.YtcogknbbbjnaiaaGreatDoor
