/- For ShowTells: what the texts XPgS XPgU XPgV of wip/tpl say. -/
import Derived.Test.YtcogknbbbjnaiaaGreatDoorJ
import Derived.Deep.RegionHeld3
import Derived.IntWalk
set_option maxRecDepth 100000
set_option maxHeartbeats 4000000
namespace Go.Proofs.YtcogknbbbjnaiaaGreatDoor
open Go.RowKit
abbrev PtV(A:Option Addr)(c:Nat)(p:PG.Part):List Value:=[.slice A p.l.length c,.int .i64 (p.n:Int)]
theorem ptC{S:Nat->Prop}{w:World}{A:Option Addr}{c:Nat}{p:PG.Part}(h:lT S w (.slice A p.l.length c) p.l):Tm S w (PtV A c p) p:=⟨A,c,rfl,h⟩
theorem AL{S:Nat->Prop}{w:World}{cells:Array Value}{d:List PG.Part}{t:TypeId}{g n:Nat}(e:g=w.heap.size)(f:n=d.length)(z:n<=1000)(i:lS S w)(h:∀k p,d[k]?=some p->∃A c,lT S w (.slice A p.l.length c) p.l/\cells[k*2]?=some (.slice A p.l.length c)/\cells[k*2+1]?=some (.int .i64 (p.n:Int))):Dg S (w.alloc (.cells cells t)) (.slice (some ⟨g,0,none⟩) n n) d:=by
 subst e f;refine⟨i.ext ((aa w).alloc _),_,d.length,rfl,az _,by omega,fun k p m=>?_,by intro h;cases h⟩;obtain⟨A,c,r,s,v⟩:=h k p m;refine⟨w.heap.size,0,rfl,_,(ptC r).ext ((aa w).alloc _),fun j u a=>?_⟩;rw[Nat.zero_add,oJ];match j,a with
 |0,a=>simp[PtV]at a;subst a;exact s
 |1,a=>simp[PtV]at a;subst a;exact v
 |j+2,a=>simp[PtV]at a
theorem U5{S:Nat->Prop}{w:World}{t:TypeId}{g:Nat}{p q:PG.Part}{A B:Option Addr}{a b:Nat}(f:g=w.heap.size)(e:lT S w (.slice A p.l.length a) p.l)(h:lT S w (.slice B q.l.length b) q.l):Dg S (w.alloc (.cells #[.slice A p.l.length a,.int .i64 (p.n:Int),.slice B q.l.length b,.int .i64 (q.n:Int)] t)) (.slice (some ⟨g,0,none⟩) 2 2) [p,q]:=by
 refine AL f rfl (by decide) e.1 fun k x d=>?_;match k,d with
 |0,d=>simp at d;subst d;exact⟨_,_,e,rfl,rfl⟩
 |1,d=>simp at d;subst d;exact⟨_,_,h,rfl,rfl⟩
theorem NA{S:Nat->Prop}{w:World}{t:TypeId}{g:Nat}{p q r:PG.Part}{A B C:Option Addr}{a b c:Nat}(f:g=w.heap.size)(e:lT S w (.slice A p.l.length a) p.l)(h:lT S w (.slice B q.l.length b) q.l)(i:lT S w (.slice C r.l.length c) r.l):Dg S (w.alloc (.cells #[.slice A p.l.length a,.int .i64 (p.n:Int),.slice B q.l.length b,.int .i64 (q.n:Int),.slice C r.l.length c,.int .i64 (r.n:Int)] t)) (.slice (some ⟨g,0,none⟩) 3 3) [p,q,r]:=by
 refine AL f rfl (by decide) e.1 fun k x d=>?_;match k,d with
 |0,d=>simp at d;subst d;exact⟨_,_,e,rfl,rfl⟩
 |1,d=>simp at d;subst d;exact⟨_,_,h,rfl,rfl⟩
 |2,d=>simp at d;subst d;exact⟨_,_,i,rfl,rfl⟩
theorem UU{S:Nat->Prop}{w:World}{t:TypeId}{g:Nat}{p q r s:PG.Part}{A B C D:Option Addr}{a b c d:Nat}(h:g=w.heap.size)(f:lT S w (.slice A p.l.length a) p.l)(i:lT S w (.slice B q.l.length b) q.l)(j:lT S w (.slice C r.l.length c) r.l)(m:lT S w (.slice D s.l.length d) s.l):Dg S (w.alloc (.cells #[.slice A p.l.length a,.int .i64 (p.n:Int),.slice B q.l.length b,.int .i64 (q.n:Int),.slice C r.l.length c,.int .i64 (r.n:Int),.slice D s.l.length d,.int .i64 (s.n:Int)] t)) (.slice (some ⟨g,0,none⟩) 4 4) [p,q,r,s]:=by
 refine AL h rfl (by decide) f.1 fun k x e=>?_;match k,e with
 |0,e=>simp at e;subst e;exact⟨_,_,f,rfl,rfl⟩
 |1,e=>simp at e;subst e;exact⟨_,_,i,rfl,rfl⟩
 |2,e=>simp at e;subst e;exact⟨_,_,j,rfl,rfl⟩
 |3,e=>simp at e;subst e;exact⟨_,_,m,rfl,rfl⟩
def GV(p:PG.Part):Prop:=PG.wK p/\∀i∈p.l,U0 i
theorem KV{p q:PG.Part}(d:GV p)(e:GV q):zl [p,q]:=by
 intro x a;simp at a;rcases a with rfl|rfl
 .exact d
 .exact e
theorem EB{p q r:PG.Part}(d:GV p)(e:GV q)(f:GV r):zl [p,q,r]:=by
 intro x a;simp at a;rcases a with rfl|rfl|rfl
 .exact d
 .exact e
 .exact f
theorem KM{p q r s:PG.Part}(d:GV p)(e:GV q)(f:GV r)(h:GV s):zl [p,q,r,s]:=by
 intro x a;simp at a;rcases a with rfl|rfl|rfl|rfl
 .exact d
 .exact e
 .exact f
 .exact h
theorem AO{far:Int}(lz:Bool)(h:-1000<=far/\far<=1000):GV (PG.split far lz):=by
 refine⟨PG.sF _ _,fun i hi=>?_⟩;cases lz;all_goals
  simp[PG.split,PG.one]at hi;subst hi;exact⟨fun _=>by simp;omega,fun h=>by simp at h⟩
theorem KW{far:Int}(h:-1000<=far/\far<=1000):GV (PG.jump far):=by refine⟨PG.AB _,fun i hi=>?_⟩;simp[PG.jump,PG.one]at hi;subst hi;exact⟨fun h=>by simp at h,fun _=>by simpa using h⟩
theorem zf{far:Int}:GV (PG.save far):=by refine⟨PG.Ag _,fun i hi=>?_⟩;simp[PG.save,PG.one]at hi;subst hi;exact⟨fun h=>by simp at h,fun h=>by simp at h⟩
theorem GV.ab5{g:Nat}{p:PG.Part}(h:PG.Ok g p):GV p:=by
 have j:p.n<=301:=by rcases h.1 with⟨d,e⟩|⟨d,e⟩<;>omega
 refine⟨h.1,fun i hi=>?_⟩;obtain⟨k,f,rfl⟩:=List.getElem_of_mem hi;have:=h.2 k _ (aU f);refine⟨fun a=>?_,fun a=>?_⟩
 .have:=this.1 a;omega
 .have:=this.2.1 a;omega
abbrev kN:=@GV.ab5
theorem GV.le{p:PG.Part}(h:GV p):p.n<=301:=by rcases h.1 with⟨a,d⟩|⟨a,d⟩<;>omega
theorem l6{S:Nat->Prop}{p:PG.Part}{w wr:World}{rb:Nat}{A:Option Addr}{c:Nat}(d:Ext w wr)(a:w.heap.size<=rb)(e:wr.heap[rb]?=some (.cells #[.slice none 0 0,.int .i64 0] 150 (0,0)))(f:lT S wr (.slice A p.l.length c) p.l):lh S p w (.returned (.agg #[.slice A p.l.length c,.int .i64 (p.n:Int)])) ((wr.setCell ⟨rb,0,none⟩ (.slice A p.l.length c)).setCell ⟨rb,1,none⟩ (.int .i64 (p.n:Int))):=⟨(d.set (p:=⟨rb,0,none⟩) a _).set (p:=⟨rb,1,none⟩) a _,A,c,rfl,f.off e (by intro x h;cases h) (fun i hi=>(gJ hi).trans (gJ hi)) (by simp)⟩
structure JA(w:World)(pb rb:Nat)(v:Value)(n:Int)(wr:World):Prop where
 ext:Ext w wr
 lo:w.heap.size<=rb
 box:wr.heap[pb]?=some (.cells #[v,.int .i64 n] 150 (0,0))
 res:wr.heap[rb]?=some (.cells #[.slice none 0 0,.int .i64 0] 150 (0,0))
section
variable{w wr w':World}{pb rb:Nat}{v:Value}{n:Int}
theorem JA.aj(h:JA w pb rb v n wr)(a:Ext wr w'):JA w pb rb v n w':=⟨h.ext.trans a,h.lo,a.heap h.box,a.heap h.res⟩
theorem JA.c0(h:JA w pb rb v n wr):wr.cell? ⟨pb,0,none⟩=some v:=cy 0 h.box
theorem JA.c1(h:JA w pb rb v n wr):wr.cell? ⟨pb,1,none⟩=some (.int .i64 n):=cy 1 h.box
theorem JA.r0(h:JA w pb rb v n wr):wr.cell? ⟨rb,0,none⟩=some (.slice none 0 0):=cy 0 h.res
theorem JA.r1(h:JA w pb rb v n wr):wr.cell? ⟨rb,1,none⟩=some (.int .i64 0):=cy 1 h.res
theorem JA.fr(h:JA w pb rb v n wr)(o:Nat):wr.frozen? ⟨rb,o,none⟩=false:=fq o h.res
end
theorem ll(w:World)(a b:Obj):((w.alloc a).alloc b).heap[w.heap.size+1]?=some b:=by have h:=aB (w.alloc a) b;rwa[show(w.alloc a).heap.size=w.heap.size+1 by simp]at h
theorem lq(w:World)(a b:Obj):((w.alloc a).alloc b).heap[w.heap.size]?=some a:=by exact((aa _).alloc b).heap (aB w a)
theorem RN{S:Nat->Prop}(p:PG.Part)(lz:Bool)(A:Option Addr)(c:Nat)(w:World)(I:lT S w (.slice A p.l.length c) p.l)(z:GV p):Calls Tryz.prog 135 #[.agg #[.slice A p.l.length c,.int .i64 (p.n:Int)],.bool lz] w (lh S (PG.loop p lz) w):=by
 have C:=jd I;have HP:=jd z;have V:=z.le;have J:=jd (xX ((p.n:Int)+2) lz);have K:=jd (GY (-(p.n:Int)-1));have d:=jd (EB (AO (far:=(p.n:Int)+2) lz (by omega)) z (KW (far:=-(p.n:Int)-1) (by omega)));have a:=jd (show PG.loop p lz=PG.row [PG.split ((p.n:Int)+2) lz,p,PG.jump (-(p.n:Int)-1)]from rfl);obtain⟨R,L⟩:∃R,PG.loop p lz=R:=⟨_,rfl⟩;rw[L]at a⊢;obtain⟨M,j⟩:∃q,PG.split ((p.n:Int)+2) lz=q:=⟨_,rfl⟩;obtain⟨N,k⟩:∃q,PG.jump (-(p.n:Int)-1)=q:=⟨_,rfl⟩;rw[j]at J d a;rw[k]at K d a;have O:=jd (fun v w(h:Dg S w v [M,p,N])=>mX [M,p,N] v w h d.o);rw[<-a.o]at O;clear I z L j k;go_enter Tryz.func135,Tryz.ntmps135;go_upto_region 1 with fail;have f:=jd (show JA w w.heap.size (w.heap.size+1) (.slice A p.l.length c) (p.n:Int) _ from⟨((aa w).alloc (.cells #[.slice A p.l.length c,.int .i64 (p.n:Int)] 150)).alloc (.cells #[.slice none 0 0,.int .i64 0] 150),Nat.le_succ _,lq _ _ _,ll _ _ _⟩);generalize(w.alloc (.cells #[.slice A p.l.length c,.int .i64 (p.n:Int)] 150)).alloc (.cells #[.slice none 0 0,.int .i64 0] 150)=w1 at f⊢;generalize m:w.heap.size+1=P at f⊢;generalize D:w.heap.size=B at f m⊢;have X:B≠P:=by omega
 have DI:P≠B:=by omega
 clear D m;have c0:=f.o.c0;have c1:=f.o.c1;have s1:IntKind.i64.wrap ((p.n:Int)+2)=(p.n:Int)+2:=jA _ (by omega);have s2:IntKind.i64.wrap (-(p.n:Int))=-(p.n:Int):=jA _ (by omega);have s3:IntKind.i64.wrap (-(p.n:Int)-1)=-(p.n:Int)-1:=jA _ (by omega);go_region_held3(fun Q=>Q.cell? ⟨B,0,none⟩=some (.slice A p.l.length c)/\Q.cell? ⟨B,1,none⟩=some (.int .i64 (p.n:Int)))
  (first|go_keep|(go_split_ands;refine⟨?_,?_⟩<;>(refine Ext.cell (by assumption) ?_;assumption)))
  (first|(go_at_call 145;(refine(J.o _).mono ?_);rintro e w2⟨E,A2,c2,rfl,r⟩;have F:=jd (r.new (C.o.1.ext (f.o.ext.trans ((aa _).drew))));have T:=jd (f.o.aj (((aa _).drew).trans E));clear r)|(go_at_call 146;(refine(K.o _).mono ?_);rintro e w3⟨s,A3,c3,rfl,t⟩;have Y:=jd (t.new (C.o.1.ext T.o.ext));have G:=jd (F.o.ext s);have U:=jd (T.o.aj s);have Z:=jd (C.o.ext U.o.ext);clear t)|(go_at_call 115;(refine(O.o _ _ (NA (by simp) G.o Z.o Y.o)).mono ?_);rintro e w4⟨H,A4,c4,rfl,u⟩;have Na:=jd u;have i:=jd (U.o.aj (((aa _).alloc _).trans H));have r0:=i.o.r0;have r1:=i.o.r1;have f0:=i.o.fr 0;have f1:=i.o.fr 1;clear u));go_wp2_with fail;refine bC (v:=.agg #[.slice A4 R.l.length c4,.int .i64 (R.n:Int)]) (by simp[results,Tryz.results135,go_sem,r0,r1]) rfl ?_;exact l6 i.o.ext i.o.lo i.o.res Na.o
structure Qk(w:World)(pb rb ob:Nat)(v:Value)(n:Int)(vo:Value)(no:Int)(wr:World):Prop where
 wV:JA w pb rb v n wr
 o:wr.heap[ob]?=some (.cells #[vo,.int .i64 no] 150 (0,0))
 lo:w.heap.size<=ob
 ne1:pb≠ob
 ne2:rb≠ob
section
variable{w wr w':World}{pb rb ob:Nat}{v vo U6:Value}{n no no':Int}
theorem Qk.aj(h:Qk w pb rb ob v n vo no wr)(a:Ext wr w'):Qk w pb rb ob v n vo no w':=⟨h.wV.aj a,a.heap h.o,h.lo,h.ne1,h.ne2⟩
theorem Qk.o0(h:Qk w pb rb ob v n vo no wr):wr.cell? ⟨ob,0,none⟩=some vo:=cy 0 h.o
theorem Qk.o1(h:Qk w pb rb ob v n vo no wr):wr.cell? ⟨ob,1,none⟩=some (.int .i64 no):=cy 1 h.o
theorem Qk.fo(h:Qk w pb rb ob v n vo no wr)(o:Nat):wr.frozen? ⟨ob,o,none⟩=false:=fq o h.o
theorem Qk.aan(h:Qk w pb rb ob v n vo no wr):Qk w pb rb ob v n U6 no' ((wr.setCell ⟨ob,0,none⟩ U6).setCell ⟨ob,1,none⟩ (.int .i64 no')):=⟨⟨(h.wV.ext.set (p:=⟨ob,0,none⟩) h.lo _).set (p:=⟨ob,1,none⟩) h.lo _,h.wV.lo,((gJ h.ne1).trans (gJ h.ne1)).trans h.wV.box,((gJ h.ne2).trans (gJ h.ne2)).trans h.wV.res⟩,aP (aP h.o),h.lo,h.ne1,h.ne2⟩
end
theorem lT.ab6{S:Nat->Prop}{wr:World}{a:Nat}{e:Value}{f d:Int}{v i:Value}{l:List PG.aD}(h:lT S wr v l)(j:wr.heap[a]?=some (.cells #[e,.int .i64 f] 150 (0,0)))(k:∀x,e≠.int .i32 x):lT S ((wr.setCell ⟨a,0,none⟩ i).setCell ⟨a,1,none⟩ (.int .i64 d)) v l:=h.off j k (fun _ hi=>(gJ hi).trans (gJ hi)) (by simp)
theorem PG.NC{g:Nat}{p a:PG.Part}(lz:Bool)(d:PG.Ok g p)(e:PG.Ok g a):PG.Ok g (PG.row [PG.split (1+(p.n:Int)+a.n) lz,p,a]):=PG.vQ d lz 1 a e
theorem ND{S:Nat->Prop}(g:Nat)(p:PG.Part)(m:Nat)(lz:Bool)(A:Option Addr)(c:Nat)(w:World)(hs:lT S w (.slice A p.l.length c) p.l)(T:PG.Ok g p)(hm:m<=1000000000):Calls Tryz.prog 136 #[.agg #[.slice A p.l.length c,.int .i64 (p.n:Int)],.int .i64 (m:Int),.bool lz] w (lh S (PG.maybe p m lz) w):=by
 have U:=jd hs;have HP:=jd T;have hpn:=(kN T).le;obtain⟨q,N⟩:∃q,(if p.n=301 then min m 1 else m)=q:=⟨_,rfl⟩;have V:=jd N;have hqm:q<=1000000000:=by rw[<-N];split<;>omega
 obtain⟨R,X⟩:∃R,PG.maybe p m lz=R:=⟨_,rfl⟩;have HR:=jd (show PG.nD p lz q ⟨[],0⟩=R by rw[<-X,PG.maybe,N]);rw[X];clear hs T N X;go_enter Tryz.func136,Tryz.ntmps136;go_upto_if 10 with fail;have d:=jd (show JA w w.heap.size (w.heap.size+1) (.slice A p.l.length c) (p.n:Int) _ from⟨((aa w).alloc (.cells #[.slice A p.l.length c,.int .i64 (p.n:Int)] 150)).alloc (.cells #[.slice none 0 0,.int .i64 0] 150),Nat.le_succ _,lq _ _ _,ll _ _ _⟩);generalize(w.alloc (.cells #[.slice A p.l.length c,.int .i64 (p.n:Int)] 150)).alloc (.cells #[.slice none 0 0,.int .i64 0] 150)=w1 at d⊢;generalize E:w.heap.size+1=u at d⊢;generalize Y:w.heap.size=z at d E⊢;have hpr:z≠u:=by omega
 have DI:u≠z:=by omega
 clear Y E;go_cut[1](fun s1 wx=>s1=.int .i64 (q:Int)/\wx=w1);case first=>
  by_cases B:p.n=301
  .have Z:((p.n:Int)==301)=true:=by simp;omega
   by_cases h4:m<=1
   .have e:q=m:=by rw[<-V.o,av B];omega
    have h5:(m:Int)<=1:=by omega
    subst e;clear B h4;go_wp2_with fail;go_meet;exact⟨rfl,rfl⟩
   .have e:q=1:=by rw[<-V.o,av B];omega
    have h5:¬((m:Int)<=1):=by omega
    subst e;clear B h4;go_wp2_with fail;go_meet;exact⟨rfl,rfl⟩
  .have Z:((p.n:Int)==301)=false:=by simp;omega
   have e:q=m:=by rw[<-V.o,ae B]
   subst e;clear B;go_wp2_with fail;go_meet;exact⟨rfl,rfl⟩
 case rest=>
  obtain⟨rfl,hw⟩:=hcut;subst hw;go_upto_region 5 with fail;have j:=jd (show Qk w z u wc.heap.size (.slice A p.l.length c) (p.n:Int) (.slice none 0 0) 0 _ from⟨d.o.aj ((aa wc).alloc (.cells #[.slice none 0 0,.int .i64 0] 150)),aB wc _,d.o.ext.size,Nat.ne_of_lt (ag d.o.box),Nat.ne_of_lt (ag d.o.res)⟩);generalize wc.alloc (.cells #[.slice none 0 0,.int .i64 0] 150)=w2 at j⊢;generalize wc.heap.size=F at j⊢;clear d;have ho1:z≠F:=j.o.ne1;have ho2:u≠F:=j.o.ne2;have ho3:F≠z:=ho1.symm;have ho4:F≠u:=ho2.symm;go_loopw[14](fun x wr=>∃(k:Nat)(a:PG.Part)(O:Option Addr)(P:Nat),k<=q/\x=.int .i64 (k:Int)/\PG.Ok g a/\PG.nD p lz (q-k) a=R/\lT S wr (.slice O a.l.length P) a.l/\Qk w z u F (.slice A p.l.length c) (p.n:Int) (.slice O a.l.length P) (a.n:Int) wr)(fun x _=>q-(intOf x).toNat);case atStart=>exact⟨0,⟨[],0⟩,none,0,aL _,rfl,PG.I6,HR.o,lT.eU (U.o.1.ext j.o.wV.ext),j.o⟩
  case round=>
   obtain⟨k,a,O,P,hk,rfl,r,hT,G,i⟩:=hrel;have d:=jd i;have HT:=jd hT;have H:=jd G;have HO:=jd r;have hon:=(kN r).le;have o0:=i.o0;have o1:=i.o1;clear i hT G r j;by_cases hlt:k<q;rotate_left
   .have HN:=jd (show a=R by rw[<-HT.o,show q-k=0 by omega];rfl);have r0:=d.o.wV.r0;have r1:=d.o.wV.r1;have f0:=d.o.wV.fr 0;have f1:=d.o.wV.fr 1;go_wp2_with fail;rw[<-HN.o];refine bC (v:=.agg #[.slice O a.l.length P,.int .i64 (a.n:Int)]) (by simp[results,Tryz.results136,go_sem,r0,r1]) rfl ?_;exact l6 d.o.wV.ext d.o.wV.lo d.o.wV.res H.o
   have c0:=d.o.wV.c0;have c1:=d.o.wV.c1;obtain⟨Q,I⟩:∃Q,PG.split (1+(p.n:Int)+a.n) lz=Q:=⟨_,rfl⟩;have Cv:=jd (xX (1+(p.n:Int)+a.n) lz);have s:=jd (EB (AO (far:=1+(p.n:Int)+a.n) lz (by omega)) (kN HP.o) (kN HO.o));obtain⟨J,f⟩:∃J,PG.row [PG.split (1+(p.n:Int)+a.n) lz,p,a]=J:=⟨_,rfl⟩;have HT2:=jd (show PG.nD p lz (q-(k+1)) J=R by rw[<-HT.o,show q-k=(q-(k+1))+1 by omega,PG.nD,f]);have gU:=jd (show PG.Ok g J by rw[<-f];exact PG.NC lz HP.o HO.o);rw[I]at Cv s f;have iY:=jd (fun v w(h:Dg S w v [Q,p,a])=>mX [Q,p,a] v w h s.o);rw[f]at iY;clear I f s;go_upto_region 6 with fail;have s1:IntKind.i64.wrap (1+(p.n:Int))=1+(p.n:Int):=jA _ (by omega);have s2:IntKind.i64.wrap (1+(p.n:Int)+a.n)=1+(p.n:Int)+a.n:=jA _ (by omega);go_region_law(first|(refine vT 145 BL rfl _ _ rfl #[.int .i64 (1+(p.n:Int)+a.n),.bool lz] ?hvs _ (Cv.o _) ?_;(case hvs=>(simp[go_sem]));rintro e w4⟨t,A2,c2,rfl,K⟩;refine⟨_,rfl,?_⟩;have C:=jd (d.o.aj (((aa _).drew).trans t));have HL2:=jd (K.new (U.o.1.ext (d.o.wV.ext.trans ((aa _).drew))));have yu:=jd (U.o.ext C.o.wV.ext);have pG:=jd (H.o.ext (((aa _).drew).trans t));have o0:=C.o.o0;have o1:=C.o.o1;have c0:=C.o.wV.c0;have c1:=C.o.wV.c1;clear K t)|(refine vT 115 GZ rfl _ _ rfl #[.slice (some ⟨w4.heap.size,0,none⟩) 3 3] ?hvs _ (iY.o _ _ (NA rfl HL2.o yu.o pG.o)) ?_;(case hvs=>(simp[go_sem]));rintro e w5⟨L,A5,c5,rfl,M⟩;refine⟨_,rfl,?_⟩;have rF:=jd M;have D:=jd (C.o.aj (((aa _).alloc _).trans L));have o0:=D.o.o0;have o1:=D.o.o1;have g0:=D.o.fo 0;have g1:=D.o.fo 1;clear M L));all_goals
    go_wp2_with fail;go_roundw;case rel=>exact⟨k+1,J,A5,c5,by omega,by go_num,gU.o,HT2.o,rF.o.ab6 D.o.o (by intro x h;cases h),D.o.aan⟩
    case measure=>simp[intOf];omega
theorem EC{α:Type}{P:Program}{w:World}{f:Array Oper}{rest:List Oper}{o:Oper}{a:Act}{Q:Exit->Act->World->Prop}{t e sz bytes:Nat}{z:Value}(L:P.underlying t=some (.slice e))(M:(P.info? e).map (fun i=>(i.zero,i.size,i.bytes))=some (some z,sz,bytes))(m:z.cells.size=sz)(p:0<sz)(r:bytes<=100){T:List TypeId}{C:World->List Value->α->Prop}(N:fO T C)(O:e∉T)(A:o.guard=none)(s x:Operand)(R:o.op=.call {callee:=.builtin .append,args:=#[s,x],argTypes:=#[t,t]})(B:Nat)(v:Value)(xs:List α)(y:α)(cs:List Value)(tb:TypeId)(k:ay e sz C B w v xs)(S:C w cs y)(D:cs.length=sz)(U:∀u∈cs,u.oneCell'=true)(V:a.eval s=v)(nb:Nat)(X:a.eval x=.slice (some ⟨nb,0,none⟩) 1 1)(E:nb=w.heap.size)(hn:xs.length<=1000000000)(hB:B<=w.heap.size)(h:∀g d w',ay e sz C B w' (.slice (some ⟨g,0,none⟩) (xs.length+1) d) (xs++[y])->(w.alloc (.cells cs.toArray tb)).grownBy w' v.ownBlock->wpList P f Q rest (a.put o.dst (.slice (some ⟨g,0,none⟩) (xs.length+1) d)) w'):wpList P f Q (o::rest) a (w.alloc (.cells cs.toArray tb)):=by subst E;obtain⟨Y,hi,F,G,H⟩:=fD M;obtain⟨flat,I,Z⟩:=k;refine wpList_append_lies _ A s x t R B e Y z sz bytes L hi F G H m p v xs.length flat V (World.ownsRow.alloc I _) ⟨w.heap.size,0,none⟩ 1 1 cs X (by omega) (fun j u hu=>jB w cs tb j u hu) U (by decide) (by unfold maxLen;omega) (aG (yC (show xs.length+1<=1000000001 by omega) r) (by omega)) (by simp;omega) _ rfl ?_;intro g d w' h3 K _ _;refine h g d w' (ay.snoc Z I.1 N ?_ S D h3) K;refine(au ((aa w).alloc _)).trans (kF K (fun g hg=>?_));obtain⟨J,hh⟩:=jw I g hg;exact⟨J,e,((aa w).alloc _).heap hh,O⟩
theorem G6:(Tryz.prog.info? 150).map (fun i=>(i.zero,i.size,i.bytes))=some (some (.agg #[.slice none 0 0,.int .i64 0]),2,32):=by kernel_rfl
abbrev Pc(S:Nat->Prop)(w:World):World->List Value->PG.Part->Prop:=fun _ cs p=>Tm S w cs p
theorem KX(S:Nat->Prop)(w:World)(T:List TypeId):fO T (Pc S w):=fun _ _ _ _ _ h=>h
theorem ay.slp{S:Nat->Prop}{w wr:World}{B:Nat}{v:Value}{a:List PG.Part}(h:ay 150 2 (Pc S w) B wr v a)(d:Ext w wr)(j:lS S w):Dg S wr v a:=by obtain⟨A,c,m,e,f,i,p⟩:=h.sl;subst m;have r:aT 150 2 (Pc S w) B wr (.slice A a.length c) a:=⟨A,c,rfl,e,f,i,p⟩;refine⟨j.ext d,A,c,rfl,e,f,fun k x d=>?_,i⟩;obtain⟨s,rfl⟩:=dh.1 d;obtain⟨g,o,t,u,z,C⟩:=aT.at_ r s;exact⟨g,o,u,t,Tm.ext z (by assumption),C⟩
structure Mny(S:Nat->Prop)(w:World)(pb rb:Nat)(v:Value)(n:Int)(vl:Value)(ps:List PG.Part)(wr:World):Prop where
 wV:JA w pb rb v n wr
 lt:pb<rb
 own:ay 150 2 (Pc S w) (rb+1) wr vl ps
section
variable{S:Nat->Prop}{w wr w':World}{pb rb:Nat}{v vl II:Value}{n:Int}{ps ps':List PG.Part}
theorem Mny.aj(h:Mny S w pb rb v n vl ps wr)(a:Ext wr w'):Mny S w pb rb v n vl ps w':=⟨h.wV.aj a,h.lt,h.own.G5 (fun _ _ d=>d) (fun _ _ _ e=>a.heap e)⟩
theorem Mny.app(h:Mny S w pb rb v n vl ps wr)(i:ay 150 2 (Pc S w) (rb+1) w' II ps')(d:wr.grownBy w' vl.ownBlock):Mny S w pb rb v n II ps' w':=by have a:=fun k f=>(h.own.lt k f).1;have:=h.lt;have:=h.wV.lo;exact⟨⟨h.wV.ext.grown d (fun k f=>by have:=a k f;omega),h.wV.lo,(d.block pb (ag h.wV.box) (by intro e;have:=a pb e.symm;omega)).trans h.wV.box,(d.block rb (ag h.wV.res) (by intro e;have:=a rb e.symm;omega)).trans h.wV.res⟩,h.lt,i⟩
end
theorem G7{S:Nat->Prop}(p:PG.Part)(m:Nat)(A:Option Addr)(c:Nat)(w:World)(J:lT S w (.slice A p.l.length c) p.l)(C:GV p)(hm:m<=1000000000):Calls Tryz.prog 134 #[.agg #[.slice A p.l.length c,.int .i64 (p.n:Int)],.int .i64 (m:Int)] w (lh S (PG.many p m) w):=by
 have D:=jd J;have P:=jd C;have Q:=C.le;obtain⟨R,E⟩:∃R,PG.many p m=R:=⟨_,rfl⟩;have K:=jd E;rw[E];clear J C E;go_enter Tryz.func134,Tryz.ntmps134;go_upto_if 8 with fail;have a:=jd (show JA w w.heap.size (w.heap.size+1) (.slice A p.l.length c) (p.n:Int) _ from⟨((aa w).alloc (.cells #[.slice A p.l.length c,.int .i64 (p.n:Int)] 150)).alloc (.cells #[.slice none 0 0,.int .i64 0] 150),Nat.le_succ _,lq _ _ _,ll _ _ _⟩);generalize(w.alloc (.cells #[.slice A p.l.length c,.int .i64 (p.n:Int)] 150)).alloc (.cells #[.slice none 0 0,.int .i64 0] 150)=w1 at a⊢;generalize r:w.heap.size+1=j at a⊢;generalize F:w.heap.size=z at a r⊢;have T:z≠j:=by omega
 have DI:j≠z:=by omega
 have U:=jd (show z<j by omega);clear F r;by_cases B:p.n=0
 .have G:=jd (show R=⟨[],0⟩by rw[<-K.o,PG.many,av B]);have s:((p.n:Int)==0)=true:=by simp;omega
  have r0:=a.o.r0;have r1:=a.o.r1;have V:=a.o.fr 0;have f1:=a.o.fr 1;clear B;go_wp2_with fail;rw[G.o];refine bC (v:=.agg #[.slice none 0 0,.int .i64 0]) (by simp[results,Tryz.results134,go_sem,r0,r1]) rfl ?_;exact l6 (p:=⟨[],0⟩) a.o.ext a.o.lo a.o.res (lT.eU (D.o.1.ext a.o.ext))
 have G:=jd (show PG.row (List.replicate m p)=R by rw[<-K.o,PG.many,ae B]);have s:((p.n:Int)==0)=false:=by simp;omega
 clear B;rw[s];go_upto_region 5 with fail;go_loopw[5,11](fun X x wr=>∃k:Nat,k<=m/\x=.int .i64 (k:Int)/\Mny S w z j (.slice A p.l.length c) (p.n:Int) X (List.replicate k p) wr)(fun _ x _=>m-(intOf x).toNat);case atStart=>exact⟨0,aL _,rfl,a.o,U.o,dO⟩
 case round=>
  obtain⟨k,hk,rfl,f⟩:=hrel;obtain⟨l,d⟩:∃l,List.replicate k p=l:=⟨_,rfl⟩;rw[d]at f;have h:=jd d;obtain⟨Al,cl,rfl,Y,-⟩:=f.own.form;have t:=jd f;have c0:=f.wV.c0;have c1:=f.wV.c1;have Z:j+1<=wr.heap.size:=ag f.wV.res;have hl:l.length<=1000000000:=by rw[<-d,List.length_replicate];omega
  clear f d;by_cases hlt:k<m
  .go_wp2_with(at_builtin;refine EC Tryz.underlying166 G6 rfl (by decide) (by decide) (KX S w []) (by simp) rfl _ _ rfl (j+1) _ l p [.slice A p.l.length c,.int .i64 (p.n:Int)] 150 t.o.own ⟨A,c,rfl,D.o⟩ rfl (by simp[Value.oneCell']) rfl wr.heap.size rfl rfl hl Z ?_;intro gg cap w5 L M;have HF:=jd ((t.o.aj ((aa wr).alloc (.cells #[.slice A p.l.length c,.int .i64 (p.n:Int)] 150))).app L M);clear L M);go_roundw;case rel=>exact⟨k+1,by omega,by go_num,by rw[List.replicate_succ',h.o];exact HF.o⟩
   case measure=>simp[intOf];omega
  .have H:k=m:=by omega
   subst H;have Iy:=jd (t.o.own.slp t.o.wV.ext D.o.1);have N:=jd (mX l _ wr Iy.o (fun x O=>by rw[<-h.o]at O;rw[List.eq_of_mem_replicate O];exact P.o));rw[show PG.row l=R by rw[<-h.o];exact G.o]at N;go_wp2_with(go_at_call 115;refine N.o.mono ?_;rintro e w4⟨I,A4,c4,rfl,u⟩;have Na:=jd u;have i:=jd (t.o.wV.aj I);have r0:=i.o.r0;have r1:=i.o.r1;have V:=i.o.fr 0;have f1:=i.o.fr 1;clear u);refine bC (v:=.agg #[.slice A4 R.l.length c4,.int .i64 (R.n:Int)]) (by simp[results,Tryz.results134,go_sem,r0,r1]) rfl ?_;exact l6 i.o.ext i.o.lo i.o.res Na.o
end Go.Proofs.YtcogknbbbjnaiaaGreatDoor
