/- For ShowTells: what the texts XPgB XMxA XMxB XMxC XPgC of wip/tpl say. -/
import Derived.Test.YtcogknbbbjnaiaaGreatDoorAa
import Derived.Laws.OwnMore
set_option maxRecDepth 100000
set_option maxHeartbeats 4000000
namespace Go.Proofs.YtcogknbbbjnaiaaGreatDoor
open Go.RowKit
theorem RF{S:Nat->Prop}{w:World}{r:Array Oper}{o:Oper}{a:Act}{K:Act->World->Prop}{Q:Exit->Act->World->Prop}{E:Prop}(z:o.guard=none)(s x:Operand)(H:o.op=.call {callee:=.builtin .append,args:=#[s,x],argTypes:=#[24,24]})(v:Value)(set:List Int)(R:wQ S w v set)(hm:set.length<=1000000)(I:a.eval s=.slice none 0 0)(J:a.eval x=v)(h:∀A t w',aT 21 1 Cc w.heap.size w' (.slice A set.length t) set->Ext w w'->K (a.put o.dst (.slice A set.length t)) w'):if Region.wanted o (yielded r a.tmps)=true then Oper.wp Tryz.prog o a w K Q else E:=by
 obtain⟨L,hi,B,C,D⟩:=fD gQ;have T:Region.wanted o (yielded r a.tmps)=true:=by simp[Region.wanted,z]
 rw[av T];have e:w.ownsRow w.heap.size 21 1 (.slice none 0 0) 0 []:=⟨by simp,.inl ⟨rfl,rfl⟩⟩;obtain⟨A,c,rfl,U,V,i,m⟩:=R;cases A with
 |none=>have X:=m rfl;subst X;have Y:set=[]:=Bv (by omega);subst Y;have d:=run_append_owned_none (P:=Tryz.prog) (w:=w) w.heap.size 24 o.type 21 L 1 eT hi (.slice none 0 0) 0 [] e;have F:=h none 0 w aS (aa _);unfold Oper.wp execOp;simp only[H,resolve,invoke,builtin,Sem.run_bind,Sem.run_pure,Result.andThen_ok,List.map_toArray,lM,mM,I,J,aN,d];exact F
 |some M=>
  have p:∀j u,(set.map (Value.int .i32))[j]?=some u->w.cell? (M.add j)=some u:=eG fun j y Z=>by
   obtain⟨b,o,hA,-,N⟩:=i j y Z;obtain rfl:=xg hA;rw[sU]at N;have:(⟨b,o,none⟩:Addr).add j=⟨b,o+j,none⟩:=by unfold Addr.add;split<;>simp_all
   rw[this];exact N
  obtain⟨v',w',d,f,G,-⟩:=run_append_own (P:=Tryz.prog) (w:=w) w.heap.size 24 o.type 21 L (.int .i32 0) 1 4 eT hi B C D rfl (by decide) (.slice none 0 0) 0 [] e M set.length c (set.map (Value.int .i32)) (by simp) p
   (fun u hu=>by obtain⟨y,_,rfl⟩:=xu.1 hu;rfl) (by unfold maxLen;omega) (by omega) (az _);rw[Nat.zero_add,BA]at f;have O:=mI f;obtain⟨A',c',rfl,-⟩:=O.form;have F:=h A' c' w' O.sl ((aa w).grown G (fun k hk=>by cases hk));unfold Oper.wp execOp;simp only[H,resolve,invoke,builtin,Sem.run_bind,Sem.run_pure,Result.andThen_ok,List.map_toArray,lM,mM,I,J,d];exact F
def JV(B:Nat)(w:World)(cs:List Value)(i:PG.aD):Prop:=∃vs,cs=[.int .i64 i.op,.int .i64 i.x,.int .i64 i.y,.bool i.neg,vs]/\aT 21 1 Cc B w vs i.set
def Jy(B:Nat)(w:World)(v:Value)(l:List PG.aD):Prop:=∃A c,v=.slice A l.length c/\l.length<=c/\c<=9223372036854775807/\(A=none->c=0)/\∀ad,A=some ad->∃g o cur,ad=⟨g,o,none⟩/\B<=g/\w.heap[g]?=some (.cells cur 104 (0,0))/\
 ∀k x,l[k]?=some x->∃cs,JV B w cs x/\∀j u,cs[j]?=some u->w.cell? ⟨g,o+k*5+j,none⟩=some u
theorem Jy.eU{B:Nat}{w:World}:Jy B w (.slice none 0 0) []:=⟨none,0,rfl,az _,by omega,fun _=>rfl,by intro a h;cases h⟩
theorem Jy.form{B:Nat}{w:World}{v:Value}{l:List PG.aD}(h:Jy B w v l):∃A c,v=.slice A l.length c/\l.length<=c/\c<=9223372036854775807:=by obtain⟨A,c,a,d,e,-⟩:=h;exact⟨A,c,a,d,e⟩
theorem Jy.ext{B:Nat}{w w':World}{v:Value}{l:List PG.aD}(h:Jy B w v l)(a:Ext w w'):Jy B w' v l:=by obtain⟨f,i,m,p,r,s,t⟩:=h;refine⟨f,i,m,p,r,s,fun z d=>?_⟩;obtain⟨g,o,e,rfl,A,C,D⟩:=t z d;refine⟨g,o,e,rfl,A,a.heap C,fun k x E=>?_⟩;obtain⟨J,⟨F,rfl,G⟩,H⟩:=D k x E;exact⟨_,⟨F,rfl,bH G (dQ []) (fun _ _ _ h=>by cases h) (au a)⟩,fun j u I=>a.cell (H j u I)⟩
theorem Jy.off{B fb:Nat}{w w':World}{v:Value}{l:List PG.aD}{cs:Array Value}(h:Jy B w v l)(D:w.heap[fb]?=some (.cells cs 31 (0,0)))(E:∀i,i≠fb->w'.heap[i]?=w.heap[i]?):Jy B w' v l:=by
 have A:∀{f:Nat}{a:Array Value}{t:TypeId},t≠31->w.heap[f]?=some (.cells a t (0,0))->w'.heap[f]?=some (.cells a t (0,0)):=by intro f a t r d;rw[E f (by intro e;rw[e,D]at d;injection d with m;injection m with _ m _;exact r m.symm)];exact d
 obtain⟨F,G,H,m,I,J,K⟩:=h;refine⟨F,G,H,m,I,J,fun L s=>?_⟩;obtain⟨g,o,a,rfl,M,d,N⟩:=K L s;have p:=A (by decide) d;refine⟨g,o,a,rfl,M,p,fun k x O=>?_⟩;obtain⟨cs,⟨P,rfl,Q⟩,R⟩:=N k x O;have z:aV [21] w w':=by intro f C t r S;simp at r;subst r;exact A (by decide) S
 exact⟨_,⟨P,rfl,bH Q (dQ []) (fun _ _ _ h=>by cases h) z⟩,fun j u T=>by rw[cy _ p,<-cy _ d];exact R j u T⟩
structure Df(w:World)(fb pb g o c:Nat)(n:Int)(l:List PG.aD)(k:Nat)(wr:World):Prop where
 ext:Ext w wr
 wO:wr.heap[fb]?=some (.cells #[.int .i64 0,.int .i64 0] 31 (0,0))
 box:wr.heap[pb]?=some (.cells #[.slice (some ⟨g,o,none⟩) l.length c,.int .i64 n] 150 (0,0))
 F3:w.heap.size<=fb
 log:w.heap.size<=g
 len:l.length<=c/\c<=9223372036854775807
 row:∃cur,wr.heap[g]?=some (.cells cur 104 (0,0))
 els:∀(j:Nat)(x:PG.aD),l[j]?=some x->∃vs,(∀(i:Nat)(u:Value),[Value.int .i64 x.op,.int .i64 x.x,.int .i64 x.y,.bool x.neg,vs][i]?=some u->wr.cell? ⟨g,o+j*5+i,none⟩=some u)/\wQ (Nw w) wr vs x.set/\(j<k->aT 21 1 Cc w.heap.size wr vs x.set)
section
variable{w wr w':World}{fb pb g o c k:Nat}{n:Int}{l:List PG.aD}
theorem Df.aj(h:Df w fb pb g o c n l k wr)(a:Ext wr w'):Df w fb pb g o c n l k w':=⟨h.ext.trans a,a.heap h.wO,a.heap h.box,h.F3,h.log,h.len,let⟨d,e⟩:=h.row;⟨d,a.heap e⟩,fun j x f=>by obtain⟨m,p,r,s⟩:=h.els j x f;exact⟨m,fun i u t=>a.cell (p i u t),r.keep a.Eu,fun v=>bH (s v) (dQ []) (fun _ _ _ h=>by cases h) (au a)⟩⟩
theorem Df.b0(h:Df w fb pb g o c n l k wr):wr.cell? ⟨pb,0,none⟩=some (.slice (some ⟨g,o,none⟩) l.length c):=cy 0 h.box
theorem Df.r0(h:Df w fb pb g o c n l k wr):wr.cell? ⟨fb,0,none⟩=some (.int .i64 0):=cy 0 h.wO
theorem Df.r1(h:Df w fb pb g o c n l k wr):wr.cell? ⟨fb,1,none⟩=some (.int .i64 0):=cy 1 h.wO
theorem Df.fr(h:Df w fb pb g o c n l k wr)(i:Nat):wr.frozen? ⟨fb,i,none⟩=false:=fq i h.wO
theorem Df.fg(h:Df w fb pb g o c n l k wr)(i:Nat):wr.frozen? ⟨g,i,none⟩=false:=let⟨_,a⟩:=h.row;fq i a
theorem Df.Zb(h:Df w fb pb g o c n l k wr):pb≠g:=by obtain⟨d,f⟩:=h.row;intro e;have a:=h.box;rw[e,f]at a;injection a with a;injection a with _ a _;exact absurd a (by decide)
theorem Df.hgl(h:Df w fb pb g o c n l k wr):g<wr.heap.size:=let⟨_,a⟩:=h.row;ag a
theorem Df.put(h:Df w fb pb g o c n l k wr){A:Option Addr}{m f:Nat}(T:k<l.length)(Y:aT 21 1 Cc w.heap.size wr (.slice A m f) l[k].set):Df w fb pb g o c n l (k+1) (wr.setCell ⟨g,o+k*5+4,none⟩ (.slice A m f)):=by
 obtain⟨E,D⟩:=h.row;have L:fb≠g:=by intro e;have a:=h.wO;rw[e,D]at a;injection a with a;injection a with _ a _;exact absurd a (by decide)
 have Zb:pb≠g:=by intro e;have a:=h.box;rw[e,D]at a;injection a with a;injection a with _ a _;exact absurd a (by decide)
 have s:=aP (o:=o+k*5+4) (u:=.slice A m f) D;have U:aV [21] wr (wr.setCell ⟨g,o+k*5+4,none⟩ (.slice A m f)):=by
  intro Z F t V B;simp at V;subst V;have M:Z≠g:=by intro e;rw[e,D]at B;injection B with a;injection a with _ a _;exact absurd a (by decide)
  rw[gJ M];exact B
 obtain⟨vk,v,N,-⟩:=h.els k _ (aU T);have z:=v 4 vk rfl;obtain⟨Ak,ck,rfl,-⟩:=id N;have d:∀i,i≠o+k*5+4->(wr.setCell ⟨g,o+k*5+4,none⟩ (.slice A m f)).cell? ⟨g,i,none⟩=wr.cell? ⟨g,i,none⟩:=by intro i hi;rw[cy i s,cy i D,Array.getElem?_setIfInBounds];rw[ae (Ne.symm hi)]
 have hS:∀{G:Value}{set:List Int},wQ (Nw w) wr G set->wQ (Nw w) (wr.setCell ⟨g,o+k*5+4,none⟩ (.slice A m f)) G set:=by
  intro G set O;refine nz.KL O fun b i x C=>⟨C.1,?_⟩;by_cases J:b=g
  .subst J;have hi:i≠o+k*5+4:=by intro e;subst e;rw[C.2]at z;cases z
   rw[d i hi];exact C.2
  .rw[ru (gJ J)];exact C.2
 refine⟨h.ext.set (p:=⟨g,o+k*5+4,none⟩) h.log _,(gJ L).trans h.wO,(gJ Zb).trans h.box,h.F3,h.log,h.len,⟨_,s⟩,fun j x P=>?_⟩;by_cases Q:j=k
 .subst Q;rw[aU T]at P;obtain rfl:=xg P;have R:o+j*5+4<E.size:=by
   rw[cy _ D]at z;rcases fC (o+j*5+4) E.size with h|h
   .exact h
   .rw[Array.getElem?_eq_none h]at z;cases z
  have H:(wr.setCell ⟨g,o+j*5+4,none⟩ (.slice A m f)).cell? ⟨g,o+j*5+4,none⟩=some (.slice A m f):=by rw[cy _ s,Array.getElem?_setIfInBounds,av rfl,av R]
  have I:=bH Y (dQ []) (fun _ _ _ h=>by cases h) U;refine⟨.slice A m f,fun i u r=>?_,?_,fun _=>I⟩
  .match i,r with
   |0,r=>rw[d _ (by omega)];exact v 0 u r
   |1,r=>rw[d _ (by omega)];exact v 1 u r
   |2,r=>rw[d _ (by omega)];exact v 2 u r
   |3,r=>rw[d _ (by omega)];exact v 3 u r
   |4,r=>simp at r;rw[<-r];exact H
   |i+5,r=>simp at r
  .obtain⟨X,c',hv,a,S,K,h4⟩:=I;refine⟨X,c',hv,a,S,fun i x C=>?_,K⟩;cases X with
   |none=>have:=K rfl;obtain⟨hi,-⟩:=dh.1 C;omega
   |some ad=>obtain⟨b,q,F,rfl,J,hh,-,h5⟩:=h4 ad rfl;obtain⟨cs,h6,h7⟩:=h5 i x C;refine⟨b,q,rfl,J,?_⟩;rw[cy _ hh];have h8:cs=[.int .i32 x]:=h6;subst h8;exact h7 0 _ rfl
 .obtain⟨G,a,S,K⟩:=h.els j x P;refine⟨G,fun i u r=>?_,hS S,fun hlt=>bH (K (by omega)) (dQ []) (fun _ _ _ h=>by cases h) U⟩;have hi:i<5:=by
   rcases fC i 5 with h|h
   .exact h
   .rw[gD (by simpa using h)]at r;cases r
  rw[d _ (by omega)];exact a i u r
theorem Df.done(h:Df w fb pb g o c n l k wr)(t:l.length<=k):Jy w.heap.size wr (.slice (some ⟨g,o,none⟩) l.length c) l:=by obtain⟨a,i⟩:=h.row;refine⟨_,c,rfl,h.len.1,h.len.2,(by intro e;cases e),fun u d=>?_⟩;obtain rfl:=xg d;refine⟨g,o,a,rfl,h.log,i,fun j x f=>?_⟩;obtain⟨m,p,v,r⟩:=h.els j x f;obtain⟨s,-⟩:=dh.1 f;exact⟨_,⟨m,rfl,r (by omega)⟩,p⟩
end
structure PD(w:World)(fb:Nat)(wr:World):Prop where
 ext:Ext w wr
 F3:w.heap.size<=fb
 wO:wr.heap[fb]?=some (.cells #[.int .i64 0,.int .i64 0] 31 (0,0))
section
variable{w wr w':World}{fb:Nat}
theorem PD.aj(h:PD w fb wr)(a:Ext wr w'):PD w fb w':=⟨h.ext.trans a,h.F3,a.heap h.wO⟩
theorem PD.r0(h:PD w fb wr):wr.cell? ⟨fb,0,none⟩=some (.int .i64 0):=cy 0 h.wO
theorem PD.r1(h:PD w fb wr):wr.cell? ⟨fb,1,none⟩=some (.int .i64 0):=cy 1 h.wO
theorem PD.fr(h:PD w fb wr)(i:Nat):wr.frozen? ⟨fb,i,none⟩=false:=fq i h.wO
theorem PD.new(h:PD w fb wr):lS (Nw w) wr:=uK h.ext.size
end
structure Mtc(w:World)(mb:Nat)(vp:Value)(prog:List PG.aD)(g:Nat)(fold:Bool):Prop where
 box:w.heap[mb]?=some (.cells #[vp,.int .i64 (g:Int),.bool fold] 137 (0,0))
 ins:KF (fun _=>True) w vp prog
theorem ay.pop{α:Type}{t sz:Nat}{C:World->List Value->α->Prop}{B:Nat}{w:World}{A:Option Addr}{n c:Nat}{xs:List α}{x:α}(h:ay t sz C B w (.slice A n c) (xs++[x])):ay t sz C B w (.slice A xs.length c) xs:=by
 obtain⟨flat,a,z⟩:=h;have e:(xs++[x]).length=xs.length+1:=by simp
 rw[e]at a;have p:(xs.length+1)*sz=xs.length*sz+sz:=by rw[pJ,Nat.one_mul]
 rcases a.2 with⟨_,Q⟩|⟨g,D,f,E,F,G,H,j,m,d⟩
 .omega
 .injection E with I R J;subst I J;have K:flat.length=(xs.length+1)*sz:=a.1;refine⟨flat.take (xs.length*sz),⟨by rw[kg];omega,.inr ⟨g,c,f,rfl,F,G,by omega,j,m,?_⟩⟩,fun k y r=>?_⟩
  .rw[<-d,List.take_take];congr 1;omega
  .obtain⟨s,-⟩:=dh.1 r;obtain⟨L,M,N,O⟩:=z k y (by rw[lK s];exact r);refine⟨L,M,N,fun i u v=>?_⟩;obtain⟨hi,-⟩:=dh.1 v;have P:(k+1)*sz<=xs.length*sz:=tC sz s;rw[pJ,Nat.one_mul]at P;rw[pY,av (by omega)];exact O i u v
theorem ay.last{α:Type}{t sz:Nat}{C:World->List Value->α->Prop}{B:Nat}{w:World}{A:Option Addr}{n c:Nat}{xs:List α}{x:α}(h:ay t sz C B w (.slice A n c) (xs++[x])):∃g cs,A=some ⟨g,0,none⟩/\n=xs.length+1/\C w cs x/\∀i u,cs[i]?=some u->w.cell? ⟨g,xs.length*sz+i,none⟩=some u:=by
 obtain⟨flat,a,j⟩:=h;have e:(xs++[x]).length=xs.length+1:=by simp
 rw[e]at a;rcases a.2 with⟨_,J⟩|⟨g,k,m,p,K,r,s,v,z,d⟩
 .omega
 .injection p with D E F;subst D E F;obtain⟨cs,G,L,H⟩:=j xs.length x (by simp);refine⟨g,cs,rfl,rfl,G,fun i u I=>?_⟩;have f:=H i u I;rw[cy _ r];rw[<-d,pY]at f;split at f
  .simpa using f
  .cases f
section
variable{w wr w':World}{tb mb sb nb m n:Nat}{sv vw vw':Value}{c:MX.Cf}
end
def Zj(s:List Int)(w:World)(e:Ending)(w':World):Prop:=Ext w w'/\∃v,e=.returned (.tuple #[v,.agg #[.int .i64 (PG.compile s).2.1,.int .i64 (PG.compile s).2.2]])/\Jy w.heap.size w' v (PG.compile s).1
theorem IQ(s:List Int)(v:Value)(w:World)(hv:ib w v s):Calls Tryz.prog 102 #[v] w (Zj s w):=by
 obtain⟨A,c,rfl,hlc,hcm,-⟩:=id hv;have HV:=jd (fun E(h:Ext w E)=>GQ s _ E (hv.ext h));obtain⟨R,hR⟩:∃R,RX.parse s=R:=⟨_,rfl⟩;obtain⟨l,code,gL⟩:=R;have HR:=jd hR;have hC:PG.compile s=(if code=0 then(if 300<(PG.whole l).n then([],3,(s.length:Int))else((PG.whole l).l,0,0))else([],code,gL)):=by unfold PG.compile;rw[hR]
 unfold Zj;obtain⟨C,hC'⟩:∃C,PG.compile s=C:=⟨_,rfl⟩;rw[hC']at hC⊢;have HC:=jd hC;clear hv hC hC' hR;go_enter Tryz.func102,Tryz.ntmps102;go_upto_region 2 with(go_at_call 103;refine(HV.o _ ((aa w).alloc _)).mono ?_;rintro e F⟨v2,u2,rfl,⟨G,rfl⟩,Z⟩;have qQ:=jd (show PD w w.heap.size F from⟨((aa w).alloc _).trans Z,az _,Z.heap (aB w _)⟩);rw[HR.o]at G⊢;dsimp only at G⊢;have WN:=jd G;have ZW:=G.form;clear G Z);obtain⟨A2,c2,rfl,aby,hcm2⟩:=ZW;have H:=jd (qQ.o.aj ((aa F).alloc (.cells #[.int .i64 code,.int .i64 gL] 31)));have lF:=jd (bH WN.o (dE _) (au ((aa F).alloc (.cells #[.int .i64 code,.int .i64 gL] 31))) (au ((aa F).alloc (.cells #[.int .i64 code,.int .i64 gL] 31))));have q0:(F.alloc (.cells #[.int .i64 code,.int .i64 gL] 31)).cell? ⟨F.heap.size,0,none⟩=some (.int .i64 code):=by rw[oJ];rfl
 have q1:(F.alloc (.cells #[.int .i64 code,.int .i64 gL] 31)).cell? ⟨F.heap.size,1,none⟩=some (.int .i64 gL):=by rw[oJ];rfl
 have hne:F.heap.size≠w.heap.size:=by have:=ag qQ.o.wO;omega
 have r0:=H.o.r0;have r1:=H.o.r1;have f0:=H.o.fr 0;have f1:=H.o.fr 1;generalize F.alloc _=w3 at H lF q0 q1 r0 r1 f0 f1⊢;generalize IA:w.heap.size=fb at H hne r0 r1 f0 f1⊢;generalize F.heap.size=xb at q0 q1 hne⊢;have HFB:=jd IA;clear IA qQ WN;by_cases hc:code=0;rotate_left
 .have hb:(code !=0)=true:=by simpa using hc
  have kJ:=jd (show C=([],code,gL)by rw[HC.o,ae hc]);clear hc;go_wp2_with fail;go_region;go_wp2_with fail;refine bC (v:=.tuple #[.slice none 0 0,.agg #[.int .i64 code,.int .i64 gL]]) (by simp[results,Tryz.results102,go_sem,r0,r1]) rfl ?_;rw[kJ.o];exact⟨((H.o.ext.set (p:=⟨fb,0,none⟩) H.o.F3 _).set (p:=⟨fb,1,none⟩) H.o.F3 _).drew,_,rfl,Jy.eU⟩
 subst hc;have Kh:gL=0:=RX.DK HR.o;subst Kh;have HT:=jd (fun E(h:Ext w3 E)=>(BK HR.o _ E (jV (bH lF.o (dE _) (au h) (au h)) (aL _))).1);obtain⟨g9,-,L⟩:=(BK HR.o _ w3 (jV lF.o (aL _))).2;have kM:=jd L;have M:=jd (fun h=>PG.xW (l:=l) (RX.qO HR.o) L h);obtain⟨W,hW⟩:∃W,PG.whole l=W:=⟨_,rfl⟩;have m:=jd (show PG.row [PG.save 0,PG.tree l.length l,PG.save 1,PG.one [⟨6,0,0,false,[]⟩]]=W from hW);rw[hW]at M;have kJ:=jd (show C=(if 300<W.n then([],3,(s.length:Int))else(W.l,0,0))by rw[HC.o,av rfl,hW]);obtain⟨p0,hp0⟩:∃q,PG.save 0=q:=⟨_,rfl⟩;obtain⟨p1,hp1⟩:∃q,PG.tree l.length l=q:=⟨_,rfl⟩;obtain⟨p2,hp2⟩:∃q,PG.save 1=q:=⟨_,rfl⟩;obtain⟨p3,hp3⟩:∃q,PG.one [⟨6,0,0,false,[]⟩]=q:=⟨_,rfl⟩;have X4:=jd (vP 0);have HSB:=jd (vP 1);have HON:=jd (fun v8 d(h:lT (Nw w) d v8 [⟨6,0,0,false,[]⟩])=>mW [⟨6,0,0,false,[]⟩] v8 d h);have X5:=jd (KM zf (kN L) zf (⟨PG.mO (by simp),fun i hi=>by simp[PG.one]at hi;subst hi;exact⟨fun h=>by simp at h,fun h=>by simp at h⟩⟩:GV (PG.one [⟨6,0,0,false,[]⟩])) (p:=PG.save 0) (r:=PG.save 1));rw[hp0]at X4 X5 m;rw[hp1]at HT X5 m M;rw[hp2]at HSB X5 m;rw[hp3]at HON X5 m;have iY:=jd (fun v E(h:Dg (Nw w) E v [p0,p1,p2,p3])=>KN [p0,p1,p2,p3] v E h X5.o);rw[m.o]at iY;have bW:True:=trivial;clear L hW hp0 hp1 hp2 hp3 r0 r1 f0 f1;go_upto_region 5 with(first|(go_at_call 116;clear bW;refine(X4.o _).mono ?_;rintro e w4⟨hx4,A4,c4,rfl,hl4⟩;have Na:=jd (hl4.new H.o.new);have zJ:=jd (H.o.aj hx4);have jY:=jd hx4;clear hl4 hx4)|(go_at_call 117;refine(HT.o _ jY.o).mono ?_;rintro e w5⟨z,A5,c5,rfl,hl5⟩;have rF:=jd (hl5.new zJ.o.new);have vK:=jd (zJ.o.aj z);have abV:=jd (Na.o.ext z);clear hl5 z)|(go_at_call 116;refine(HSB.o _).mono ?_;rintro e w6⟨N,A6,c6,rfl,FR⟩;have Jt:=jd (FR.new vK.o.new);have yw:=jd (vK.o.aj N);have abW:=jd (abV.o.ext N);have abX:=jd (rF.o.ext N);clear FR N)|(go_at_call 118;refine(HON.o _ _ (kP 6 0 0 false [] yw.o.new (by simp) nz.eU)).mono ?_;rintro e w7⟨hx7,A7,c7,rfl,IK⟩;have tq:=jd IK;have I:=((aa w6).alloc (.cells #[.int .i64 6,.int .i64 0,.int .i64 0,.bool false,.slice none 0 0] 104)).trans hx7;have Zk:=jd (yw.o.aj I);have abY:=jd (abW.o.ext I);have abZ:=jd (abX.o.ext I);have KO:=jd (Jt.o.ext I);clear IK hx7 I)|(go_at_call 115;refine(iY.o _ _ (UU (t:=150) (g:=w7.heap.size) rfl abY.o abZ.o KO.o tq.o)).mono ?_;rintro e d⟨⟨Y4,A8,O,rfl,Q6⟩,hty⟩;have Tj:=jd Q6;have P:=jd (Zk.o.aj (((aa w7).alloc _).trans Y4));have HTY:=jd hty;have MJ:=jd Zk.o.ext.size;have adH:=Q6.form;clear Q6 Y4 hty));by_cases hn:300<W.n
 .have hd:decide ((300:Int)<(W.n:Int))=true:=by simp;omega
  have dY:=jd (show C=([],3,(s.length:Int))by rw[kJ.o,av hn]);have V:=jd (P.o.aj ((aa d).alloc (.cells #[.slice A8 W.l.length O,.int .i64 (W.n:Int)] 150)));have r0:=V.o.r0;have r1:=V.o.r1;have f0:=V.o.fr 0;have f1:=V.o.fr 1;have b1:(d.alloc (.cells #[.slice A8 W.l.length O,.int .i64 (W.n:Int)] 150)).cell? ⟨d.heap.size,1,none⟩=some (.int .i64 (W.n:Int)):=by rw[oJ];rfl
  generalize d.alloc _=w9 at V r0 r1 f0 f1 b1⊢;clear hn;go_wp2_with fail;refine bC (v:=.tuple #[.slice none 0 0,.agg #[.int .i64 3,.int .i64 (s.length:Int)]]) (by simp[results,Tryz.results102,go_sem,r0,r1]) rfl ?_;rw[dY.o];exact⟨(V.o.ext.set (p:=⟨fb,0,none⟩) V.o.F3 _).set (p:=⟨fb,1,none⟩) V.o.F3 _,_,rfl,Jy.eU⟩
 have hd:decide ((300:Int)<(W.n:Int))=false:=by simp;omega
 have dY:=jd (show C=(W.l,0,0)by rw[kJ.o,ae hn]);have J:=M.o (by omega);have K:0<W.l.length:=by rw[J.2.2.2];simp
 have hlen3:W.l.length<=300:=by have:=J.1.len;have:=J.1.le;omega
 obtain⟨Ax,cx,hAx,hlx,hcx⟩:=adH;injection hAx with e1 _ e3;subst e1 e3;cases A8 with
 |none=>obtain⟨g,o,Q,T,-⟩:=Tj.o.P5 (k:=0) K;cases T
 |some ad=>
  obtain⟨ab0,cur,ab1⟩:=HTY.o ad _ _ _ rfl;obtain⟨g,o,cs0,T,-,-⟩:=Tj.o.P5 (k:=0) K;injection T with T;subst T;have hge:w.heap.size<=g:=by have:=MJ.o;have h:(w7.alloc _).heap.size<=g:=ab0;simp at h;omega
  have f:=jd (show Df w fb d.heap.size g o O (W.n:Int) W.l 0 (d.alloc (.cells #[.slice (some ⟨g,o,none⟩) W.l.length O,.int .i64 (W.n:Int)] 150))from by have hx:=(aa d).alloc (.cells #[.slice (some ⟨g,o,none⟩) W.l.length O,.int .i64 (W.n:Int)] 150);refine⟨P.o.ext.trans hx,hx.heap P.o.wO,aB d _,P.o.F3,hge,⟨hlx,hcx⟩,⟨cur,hx.heap ab1⟩,fun j x hj=>?_⟩;obtain⟨hjl,hj⟩:=dh.1 hj;subst hj;obtain⟨g2,o2,Q,T,⟨vs,rfl,B⟩,a⟩:=Tj.o.P5 (k:=j) hjl;injection T with T;injection T with X h2;subst X h2;exact⟨vs,fun i u hu=>hx.cell (a i u hu),B.keep hx.Eu,fun h=>by omega⟩);have HSM:=jd J.2.1;clear ab0 ab1 hge J hn Na rF Jt tq abV abW abX abY abZ KO Tj HTY MJ kJ iY X5 X4 HSB HON HT kM M m;have b0:=f.o.b0;have b1:(d.alloc (.cells #[.slice (some ⟨g,o,none⟩) W.l.length O,.int .i64 (W.n:Int)] 150)).cell? ⟨d.heap.size,1,none⟩=some (.int .i64 (W.n:Int)):=by rw[oJ];rfl
  generalize d.alloc _=w9 at f b0 b1⊢;generalize d.heap.size=pb at f b0 b1⊢;generalize W.n=wn at f b1 hd⊢;generalize W.l=Y at f b0 dY K hlen3 hlx HSM⊢;go_wp2_with fail;go_loopw[36](fun x wr=>∃k:Nat,k<=Y.length/\x=.int .i64 (k:Int)/\Df w fb pb g o O (wn:Int) Y k wr)(fun x _=>Y.length-(intOf x).toNat);case atStart=>exact⟨0,aL _,rfl,f.o⟩
  case round=>
   obtain⟨k,hk,rfl,D⟩:=hrel;have f:=jd D;have b0:=D.b0;have r0:=D.r0;have r1:=D.r1;have f0:=D.fr 0;have f1:=D.fr 1;have Zb:=D.Zb;have hgl:=D.hgl;have hpf:pb≠fb:=by intro e;have X:=D.box;rw[e,D.wO]at X;injection X with X;injection X with _ X _;exact absurd X (by decide)
   by_cases hlt:k<Y.length;rotate_left
   .clear D;go_wp2_with fail;refine bC (v:=.tuple #[.slice (some ⟨g,o,none⟩) Y.length O,.agg #[.int .i64 0,.int .i64 0]]) (by simp[results,Tryz.results102,go_sem,r0,r1]) rfl ?_;rw[dY.o];exact⟨(f.o.ext.set (p:=⟨fb,0,none⟩) f.o.F3 _).set (p:=⟨fb,1,none⟩) f.o.F3 _,_,rfl,(f.o.done (by omega)).off f.o.wO (fun _ hi=>(gJ hi).trans (gJ hi))⟩
   obtain⟨vs,a,B,-⟩:=D.els k _ (aU hlt);have hsm:Y[k].set.length<=1000000:=aG (HSM.o _ (bK hlt)) (by decide);obtain⟨i,hi⟩:∃i,Y[k]=i:=⟨_,rfl⟩;rw[hi]at a B hsm;have HI:=jd hi;obtain⟨As,Q,rfl,-⟩:=id B;have TZ:=jd B;have e0:wr.cell? ⟨g,o+k*5,none⟩=_:=a 0 _ rfl;have e1:=a 1 _ rfl;have e2:=a 2 _ rfl;have e3:=a 3 _ rfl;have e4:=a 4 _ rfl;clear a B hi D;go_upto_region 10 with fail;have I1:=jd (f.o.aj ((aa _).alloc (.cells #[.int .i64 i.op,.int .i64 i.x,.int .i64 i.y,.bool i.neg,.slice As i.set.length Q] 104)));have ab2:=jd (wQ.keep TZ.o ((aa _).alloc (.cells #[.int .i64 i.op,.int .i64 i.x,.int .i64 i.y,.bool i.neg,.slice As i.set.length Q] 104)).Eu);have U:=aB wr (.cells #[.int .i64 i.op,.int .i64 i.x,.int .i64 i.y,.bool i.neg,.slice As i.set.length Q] 104);have e4:=((aa wr).alloc (.cells #[.int .i64 i.op,.int .i64 i.x,.int .i64 i.y,.bool i.neg,.slice As i.set.length Q] 104)).cell e4;clear b0 r0 r1 f0 f1 e0 e1 e2 e3 f TZ;generalize wr.alloc (.cells #[.int .i64 i.op,.int .i64 i.x,.int .i64 i.y,.bool i.neg,.slice As i.set.length Q] 104)=w3 at I1 ab2 U e4⊢;have hgn:g≠wr.heap.size:=Nat.ne_of_lt hgl;have hng:wr.heap.size≠g:=hgn.symm;have hgp:g≠pb:=Zb.symm;generalize wr.heap.size=nb at U hgn hng⊢;have b0:=I1.o.b0;have x4:=cy 4 U;have x4:w3.cell? ⟨nb,4,none⟩=some (.slice As i.set.length Q):=x4;clear U;go_region_held3(fun E=>E.cell? ⟨pb,0,none⟩=some (.slice (some ⟨g,o,none⟩) Y.length O)/\E.cell? ⟨nb,4,none⟩=some (.slice As i.set.length Q))
    (first|go_keep|(go_split_ands;refine⟨?_,?_⟩<;>(refine Ext.cell (by assumption) ?_;assumption))|(go_split_ands;refine⟨?_,?_⟩<;>(rw[ru (gJ (by assumption))];assumption)))
    ((refine RF (S:=Nw w) rfl _ _ (by rfl) _ i.set (wQ.keep ab2.o ((aa _).drew).Eu) hsm (by rfl) (by rfl) ?_;intro A5 c5 w5 h5 z;have yz:=jd (jq h5 (show w.heap.size<=_ from I1.o.ext.size));have Jz:=jd (I1.o.aj (((aa _).drew).trans z));have e5:=z.cell e4;have f5:=Jz.o.fg (o+k*5+4);clear h5));have HQ6:=jd (Jz.o.put hlt (by rw[HI.o];exact yz.o));go_wp2_with fail;go_roundw;case rel=>exact⟨k+1,by omega,by go_num,HQ6.o⟩
   case measure=>simp[intOf];omega
end Go.Proofs.YtcogknbbbjnaiaaGreatDoor
