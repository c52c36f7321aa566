/- For ShowTells: what the texts XPgM XPgN XPgO XPgQ XPgR of wip/tpl say. -/
import Derived.Test.YtcogknbbbjnaiaaGreatDoorI
import Derived.Deep.RegionLaw
import Derived.Deep.CutBlock
set_option maxRecDepth 100000
set_option maxHeartbeats 4000000
namespace Go.Proofs.YtcogknbbbjnaiaaGreatDoor
open Go.RowKit
theorem nz.KL{α:Type}{sz:Nat}{R a:World->Nat->Nat->α->Prop}{w w':World}{v:Value}{xs:List α}(h:nz sz R w v xs)(d:∀b o x,R w b o x->a w' b o x):nz sz a w' v xs:=by obtain⟨A,c,e,f,i,j,m⟩:=h;exact⟨A,c,e,f,i,fun k x p=>let⟨b,o,r,s⟩:=j k x p;⟨b,o,r,d _ _ _ s⟩,m⟩
def AtS(S:Nat->Prop)(w:World)(b o:Nat)(x:Int):Prop:=S b/\w.cell? ⟨b,o,none⟩=some (.int .i32 x)
abbrev wQ(S:Nat->Prop):=@nz Int 1 (AtS S)
def UY(S:Nat->Prop)(w:World)(cs:List Value)(i:PG.aD):Prop:=∃vs,cs=[.int .i64 i.op,.int .i64 i.x,.int .i64 i.y,.bool i.neg,vs]/\wQ S w vs i.set
def GX(S S':Nat->Prop)(w w':World):Prop:=∀(b o:Nat)(u:Value),S b->w.cell? ⟨b,o,none⟩=some u->S' b/\w'.cell? ⟨b,o,none⟩=some u
theorem Ext.Eu{S:Nat->Prop}{w w':World}(h:Ext w w'):GX S S w w':=fun _ _ _ a d=>⟨a,h.cell d⟩
theorem wQ.keep{S a:Nat->Prop}{w w':World}{v:Value}{xs:List Int}(h:wQ S w v xs)(d:GX S a w w'):wQ a w' v xs:=nz.KL h fun _ _ _⟨e,f⟩=>d _ _ _ e f
theorem UY.keep{S a:Nat->Prop}{w w':World}{cs:List Value}{i:PG.aD}(h:UY S w cs i)(d:GX S a w w'):UY a w' cs i:=by obtain⟨e,f,j⟩:=h;exact⟨e,f,j.keep d⟩
theorem UY.ext{S:Nat->Prop}{w w':World}{cs:List Value}{i:PG.aD}(h:UY S w cs i)(a:Ext w w'):UY S w' cs i:=h.keep a.Eu
def KF(S:Nat->Prop)(w:World)(v:Value)(l:List PG.aD):Prop:=nz 5 (fun w b o i=>S b/\∃cs,UY S w cs i/\cs.length=5/\∀(j:Nat)(u:Value),cs[j]?=some u->w.cell? ⟨b,o+j,none⟩=some u) w v l
theorem KF.keep{S e:Nat->Prop}{w w':World}{v:Value}{l:List PG.aD}(h:KF S w v l)(a:GX S e w w'):KF e w' v l:=nz.KL h fun b o _⟨f,i,k,p,m⟩=>by
 have r:∃u,i[0]?=some u:=by obtain⟨s,rfl,_⟩:=k;exact⟨_,rfl⟩
 obtain⟨u,d⟩:=r;exact⟨(a _ _ _ f (m 0 u d)).1,i,k.keep a,p,fun j u d=>(a _ _ _ f (m j u d)).2⟩
def lS(S:Nat->Prop)(w:World):Prop:=∀b,w.heap.size<=b->S b
theorem lS.ext{S:Nat->Prop}{w w':World}(h:lS S w)(a:Ext w w'):lS S w':=fun b d=>h b (aG a.size d)
def lT(S:Nat->Prop)(w:World)(v:Value)(l:List PG.aD):Prop:=lS S w/\KF S w v l
theorem lT.ext{S:Nat->Prop}{w w':World}{v:Value}{l:List PG.aD}(h:lT S w v l)(a:Ext w w'):lT S w' v l:=⟨h.1.ext a,h.2.keep a.Eu⟩
theorem lT.wk{S a:Nat->Prop}{w:World}{v:Value}{l:List PG.aD}(h:lT S w v l)(d:∀b,S b->a b):lT a w v l:=⟨fun b e=>d b (h.1 b e),h.2.keep fun _ _ _ f i=>⟨d _ f,i⟩⟩
theorem lT.new{S:Nat->Prop}{w w':World}{v:Value}{l:List PG.aD}(h:lT (w.heap.size<=·) w' v l)(a:lS S w):lT S w' v l:=h.wk a
theorem lT.form{S:Nat->Prop}{w:World}{v:Value}{l:List PG.aD}(h:lT S w v l):∃A c,v=.slice A l.length c/\l.length<=c/\c<=9223372036854775807:=by obtain⟨-,A,c,a,d,e,-⟩:=h;exact⟨A,c,a,d,e⟩
theorem lT.P5{S:Nat->Prop}{w:World}{A:Option Addr}{n c:Nat}{l:List PG.aD}(h:lT S w (.slice A n c) l){k:Nat}(a:k<l.length):∃g o cs,A=some ⟨g,o,none⟩/\UY S w cs l[k]/\∀(j:Nat)(u:Value),cs[j]?=some u->w.cell? ⟨g,o+k*5+j,none⟩=some u:=by obtain⟨b,o,d,-,cs,e,-,f⟩:=nz.at_ h.2 (aU a);exact⟨b,o,cs,d,e,f⟩
theorem lT.eU{S:Nat->Prop}{w:World}(h:lS S w):lT S w (.slice none 0 0) []:=⟨h,nz.eU⟩
def Tm(S:Nat->Prop)(w:World)(cs:List Value)(p:PG.Part):Prop:=∃A c,cs=[.slice A p.l.length c,.int .i64 (p.n:Int)]/\lT S w (.slice A p.l.length c) p.l
theorem Tm.ext{S:Nat->Prop}{w w':World}{cs:List Value}{p:PG.Part}(h:Tm S w cs p)(a:Ext w w'):Tm S w' cs p:=by obtain⟨A,c,d,e⟩:=h;exact⟨A,c,d,e.ext a⟩
def Dg(S:Nat->Prop)(w:World)(v:Value)(ps:List PG.Part):Prop:=lS S w/\nz 2 (fun w b o p=>∃cs,Tm S w cs p/\∀(j:Nat)(u:Value),cs[j]?=some u->w.cell? ⟨b,o+j,none⟩=some u) w v ps
theorem Dg.form{S:Nat->Prop}{w:World}{v:Value}{a:List PG.Part}(h:Dg S w v a):∃A c,v=.slice A a.length c/\a.length<=c/\c<=9223372036854775807:=by obtain⟨-,A,c,d,e,f,-⟩:=h;exact⟨A,c,d,e,f⟩
theorem Dg.atP{S:Nat->Prop}{w:World}{A:Option Addr}{n c:Nat}{a:List PG.Part}(h:Dg S w (.slice A n c) a){k:Nat}(d:k<a.length):∃g o cs,A=some ⟨g,o,none⟩/\Tm S w cs a[k]/\∀(j:Nat)(u:Value),cs[j]?=some u->w.cell? ⟨g,o+k*2+j,none⟩=some u:=by obtain⟨b,o,e,cs,f,i⟩:=nz.at_ h.2 (aU d);exact⟨b,o,cs,e,f,i⟩
def lh(S:Nat->Prop)(p:PG.Part)(w:World)(e:Ending)(w':World):Prop:=Ext w w'/\∃A c,e=.returned (.agg #[.slice A p.l.length c,.int .i64 (p.n:Int)])/\lT S w' (.slice A p.l.length c) p.l
theorem Ext.MQ{w W:World}{o:Nat}{u:Value}(h:Ext w W):Ext w (W.setCell ⟨w.heap.size,o,none⟩ u):=h.set (p:=⟨w.heap.size,o,none⟩) (az _) u
theorem Ext.IC{w W:World}{g o:Nat}{u:Value}(a:w.heap.size<=g)(h:Ext w W):Ext w (W.setCell ⟨g,o,none⟩ u):=h.set (p:=⟨g,o,none⟩) a u
theorem UZ{S:Nat->Prop}{w:World}{i:PG.aD}{d:Value}(e:lS S w)(f:wQ S w d i.set):lT S (w.alloc (.cells #[.int .i64 i.op,.int .i64 i.x,.int .i64 i.y,.bool i.neg,d] 104)) (.slice (some ⟨w.heap.size,0,none⟩) 1 1) [i]:=by
 refine⟨e.ext ((aa w).alloc _),_,1,rfl,az _,by omega,fun k x a=>?_,by intro h;cases h⟩;match k,a with
 |0,a=>simp at a;subst a;refine⟨w.heap.size,0,rfl,e _ (az _),_,⟨d,rfl,f.keep ((aa w).alloc _).Eu⟩,rfl,fun j u m=>?_⟩;simp only[Nat.zero_mul,Nat.zero_add];rw[oJ];simpa using m
theorem mW{S:Nat->Prop}(l:List PG.aD)(v:Value)(w:World)(a:lT S w v l):Calls Tryz.prog 118 #[v] w (lh S (PG.one l) w):=by obtain⟨A,c,rfl,-⟩:=a.form;have d:=jd a;clear a;go_enter Tryz.func118,Tryz.ntmps118;go_wp2_with fail;refine bC (v:=.agg #[.slice A l.length c,.int .i64 (l.length:Int)]) (by simp[results,Tryz.results118,go_sem]) rfl ?_;exact⟨(aa w).alloc _,A,c,rfl,d.o.ext ((aa w).alloc _)⟩
def U0(i:PG.aD):Prop:=(i.op=4->-1000<=i.x/\i.x<=1000/\-1000<=i.y/\i.y<=1000)/\(i.op=5->-1000<=i.x/\i.x<=1000)
def ab3(i:PG.aD)(vs:Value)(w:World)(e:Ending)(w':World):Prop:=Ext w w'/\e=.returned (.agg #[.int .i64 i.op,.int .i64 i.x,.int .i64 i.y,.bool i.neg,vs])
theorem RI(i:PG.aD)(k:Int)(A:Option Addr)(n c:Nat)(w:World)(m:U0 i)(p:0<=k/\k<=1000):Calls Tryz.prog 131 #[.agg #[.int .i64 i.op,.int .i64 i.x,.int .i64 i.y,.bool i.neg,.slice A n c],.int .i64 k] w (ab3 (PG.moved k i) (.slice A n c) w):=by
 obtain⟨op,x,y,neg,set⟩:=i;obtain⟨a,d⟩:=m;obtain⟨r,s⟩:=p;dsimp only at a d⊢;have z:∀W,Ext w W->Ext w W:=fun _ h=>h;by_cases f:op=4
 .subst f;obtain⟨t,u,B,C⟩:=a rfl;have e:=jd (show PG.moved k ⟨4,x,y,neg,set⟩=⟨4,x+k,y+k,neg,set⟩from rfl);rw[e.o];clear a d;go_enter Tryz.func131,Tryz.ntmps131;go_wp2_with fail;refine bC (v:=.agg #[.int .i64 4,.int .i64 (x+k),.int .i64 (y+k),.bool neg,.slice A n c]) (by simp[results,Tryz.results131,go_sem]) rfl ?_;exact⟨by(focus(repeat(first|with_reducible exact aa _|with_reducible apply af|with_reducible apply Ext.MQ|(with_reducible refine Ext.IC ?_ ?_;(simp;done))))),rfl⟩
 .by_cases j:op=5
  .subst j;obtain⟨t,u⟩:=d rfl;have e:=jd (show PG.moved k ⟨5,x,y,neg,set⟩=⟨5,x+k,y,neg,set⟩from rfl);rw[e.o];clear a d;go_enter Tryz.func131,Tryz.ntmps131;go_wp2_with fail;refine bC (v:=.agg #[.int .i64 5,.int .i64 (x+k),.int .i64 y,.bool neg,.slice A n c]) (by simp[results,Tryz.results131,go_sem]) rfl ?_;exact⟨by(focus(repeat(first|with_reducible exact aa _|with_reducible apply af|with_reducible apply Ext.MQ|(with_reducible refine Ext.IC ?_ ?_;(simp;done))))),rfl⟩
  .have e:=jd (show PG.moved k ⟨op,x,y,neg,set⟩=⟨op,x,y,neg,set⟩by unfold PG.moved;rw[ae f,ae j]);rw[e.o];clear a d;go_enter Tryz.func131,Tryz.ntmps131;go_wp2_with fail;refine bC (v:=.agg #[.int .i64 op,.int .i64 x,.int .i64 y,.bool neg,.slice A n c]) (by simp[results,Tryz.results131,go_sem]) rfl ?_;exact⟨by(focus(repeat(first|with_reducible exact aa _|with_reducible apply af|with_reducible apply Ext.MQ|(with_reducible refine Ext.IC ?_ ?_;(simp;done))))),rfl⟩
theorem U1{w:World}{g h o:Nat}{u:Value}(a:g≠h):(w.setCell ⟨h,o,none⟩ u).heap[g]?=w.heap[g]?:=Below.heap_setCell w ⟨h,o,none⟩ u g a
abbrev gJ:=@U1
theorem ru{w w':World}{b o:Nat}(h:w'.heap[b]?=w.heap[b]?):w'.cell? ⟨b,o,none⟩=w.cell? ⟨b,o,none⟩:=by unfold World.cell?;rw[h]
abbrev Nw(w:World):Nat->Prop:=fun b=>w.heap.size<=b
theorem uK{w W:World}(h:w.heap.size<=W.heap.size):lS (Nw w) W:=fun _ a=>aG h a
theorem wQ.off{S:Nat->Prop}{w w':World}{g:Nat}{a:Value}{n:Int}{t:TypeId}{v:Value}{xs:List Int}(h:wQ S w v xs)(j:w.heap[g]?=some (.cells #[a,.int .i64 n] t (0,0)))(k:∀x,a≠.int .i32 x)(m:∀i,i≠g->w'.heap[i]?=w.heap[i]?):wQ S w' v xs:=by
 refine nz.KL h fun b o x⟨p,d⟩=>?_;have f:b≠g:=by
  intro e;subst e;rw[cy o j]at d;match o,d with
  |0,d=>exact k x (by simpa using d)
  |1,d=>simp at d
  |n+2,d=>simp at d
 exact⟨p,(ru (m b f)).trans d⟩
theorem lT.off{S:Nat->Prop}{w w':World}{g:Nat}{a:Value}{n:Int}{t:TypeId}{v:Value}{l:List PG.aD}(h:lT S w v l)(m:w.heap[g]?=some (.cells #[a,.int .i64 n] t (0,0)))(s:∀x,a≠.int .i32 x)(p:∀i,i≠g->w'.heap[i]?=w.heap[i]?)(z:w.heap.size<=w'.heap.size):lT S w' v l:=by
 refine⟨fun b A=>h.1 b (aG z A),nz.KL h.2 fun b o x B=>?_⟩;obtain⟨C,G,⟨r,rfl,D⟩,E,d⟩:=B;have f:b≠g:=by intro e;subst e;have k:=d 4 r rfl;rw[cy (o+4) m]at k;rw[Array.getElem?_eq_none (by simp)]at k;cases k
 exact⟨C,_,⟨r,rfl,D.off m s p⟩,E,fun j u F=>(ru (p b f)).trans (d j u F)⟩
theorem kP{S:Nat->Prop}{w:World}{a:Value}{g:Nat}(op x y:Int)(neg:Bool)(set:List Int)(d:lS S w)(e:g=w.heap.size)(f:wQ S w a set):lT S (w.alloc (.cells #[.int .i64 op,.int .i64 x,.int .i64 y,.bool neg,a] 104)) (.slice (some ⟨g,0,none⟩) 1 1) [⟨op,x,y,neg,set⟩]:=by subst e;exact UZ (i:=⟨op,x,y,neg,set⟩) d f
theorem zh{S:Nat->Prop}{p:PG.Part}{w a:World}{A:Option Addr}{c:Nat}{n:Int}(d:a.heap[w.heap.size]?=some (.cells #[.slice none 0 0,.int .i64 0] 150 (0,0)))(e:Ext w a)(f:lT S a (.slice A p.l.length c) p.l):lh S p w (.returned (.agg #[.slice A p.l.length c,.int .i64 (p.n:Int)])) ((a.setCell ⟨w.heap.size,0,none⟩ (.slice A p.l.length c)).setCell ⟨w.heap.size,1,none⟩ (.int .i64 n)):=⟨(e.MQ).MQ,A,c,rfl,f.off d (by intro x h;cases h) (fun i hi=>(gJ hi).trans (gJ hi)) (by simp)⟩
theorem Ny(far:Int)(w:World):Calls Tryz.prog 145 #[.int .i64 far,.bool false] w (lh (Nw w) (PG.split far false) w):=by go_enter Tryz.func145,Tryz.ntmps145;go_wp2_with(go_at_call 118;refine(mW [⟨4,1,far,false,[]⟩] _ _ (kP (4) (1) (far) (false) ([]) (uK (w:=w) (by simp;try omega)) (by simp) nz.eU)).mono ?_;rintro e j⟨i,k,c2,rfl,d⟩;have a:Ext (w.alloc (.cells #[.slice none 0 0,.int .i64 0] 150)) j:=jv (by(focus(repeat(first|with_reducible exact aa _|with_reducible apply af|(with_reducible refine Ext.IC ?_ ?_;(simp;done)))))) i;have f:=a.heap (aB w _);obtain⟨m,r,u,f1⟩:=PW f;have s:=jd (((aa w).alloc _).trans a);have h:=jd d;have t:=jd f;clear i a f d);refine bC (v:=.agg #[.slice k 1 c2,.int .i64 1]) (by simp[results,Tryz.results145,go_sem,m,r,PG.one]) rfl ?_;exact zh (p:=PG.split far false) t.o s.o h.o
theorem KP(far:Int)(w:World):Calls Tryz.prog 145 #[.int .i64 far,.bool true] w (lh (Nw w) (PG.split far true) w):=by go_enter Tryz.func145,Tryz.ntmps145;go_wp2_with(go_at_call 118;refine(mW [⟨4,far,1,false,[]⟩] _ _ (kP (4) (far) (1) (false) ([]) (uK (w:=w) (by simp;try omega)) (by simp) nz.eU)).mono ?_;rintro e j⟨i,k,c2,rfl,d⟩;have a:Ext (w.alloc (.cells #[.slice none 0 0,.int .i64 0] 150)) j:=jv (by(focus(repeat(first|with_reducible exact aa _|with_reducible apply af|(with_reducible refine Ext.IC ?_ ?_;(simp;done)))))) i;have f:=a.heap (aB w _);obtain⟨m,r,u,f1⟩:=PW f;have s:=jd (((aa w).alloc _).trans a);have h:=jd d;have t:=jd f;clear i a f d);refine bC (v:=.agg #[.slice k 1 c2,.int .i64 1]) (by simp[results,Tryz.results145,go_sem,m,r,PG.one]) rfl ?_;exact zh (p:=PG.split far true) t.o s.o h.o
theorem GY(far:Int)(w:World):Calls Tryz.prog 146 #[.int .i64 far] w (lh (Nw w) (PG.jump far) w):=by go_enter Tryz.func146,Tryz.ntmps146;go_wp2_with(go_at_call 118;refine(mW [⟨5,far,0,false,[]⟩] _ _ (kP (5) (far) (0) (false) ([]) (uK (w:=w) (by simp;try omega)) (by simp) nz.eU)).mono ?_;rintro e j⟨i,k,c2,rfl,d⟩;have a:Ext (w.alloc (.cells #[.slice none 0 0,.int .i64 0] 150)) j:=jv (by(focus(repeat(first|with_reducible exact aa _|with_reducible apply af|(with_reducible refine Ext.IC ?_ ?_;(simp;done)))))) i;have f:=a.heap (aB w _);obtain⟨m,r,u,f1⟩:=PW f;have s:=jd (((aa w).alloc _).trans a);have h:=jd d;have t:=jd f;clear i a f d);refine bC (v:=.agg #[.slice k 1 c2,.int .i64 1]) (by simp[results,Tryz.results146,go_sem,m,r,PG.one]) rfl ?_;exact zh (p:=PG.jump far) t.o s.o h.o
theorem vP(far:Int)(w:World):Calls Tryz.prog 116 #[.int .i64 far] w (lh (Nw w) (PG.save far) w):=by go_enter Tryz.func116,Tryz.ntmps116;go_wp2_with(go_at_call 118;refine(mW [⟨3,far,0,false,[]⟩] _ _ (kP (3) (far) (0) (false) ([]) (uK (w:=w) (by simp;try omega)) (by simp) nz.eU)).mono ?_;rintro e j⟨i,k,c2,rfl,d⟩;have a:Ext (w.alloc (.cells #[.slice none 0 0,.int .i64 0] 150)) j:=jv (by(focus(repeat(first|with_reducible exact aa _|with_reducible apply af|(with_reducible refine Ext.IC ?_ ?_;(simp;done)))))) i;have f:=a.heap (aB w _);obtain⟨m,r,u,f1⟩:=PW f;have s:=jd (((aa w).alloc _).trans a);have h:=jd d;have t:=jd f;clear i a f d);refine bC (v:=.agg #[.slice k 1 c2,.int .i64 1]) (by simp[results,Tryz.results116,go_sem,m,r,PG.one]) rfl ?_;exact zh (p:=PG.save far) t.o s.o h.o
theorem xX(far:Int)(lz:Bool)(w:World):Calls Tryz.prog 145 #[.int .i64 far,.bool lz] w (lh (Nw w) (PG.split far lz) w):=by
 cases lz
 .exact Ny far w
 .exact KP far w
theorem vR{P:Program}{f:FuncId}{e:Func}(j:P.funcs[f]?=some e)(d:(e.name== "runtime.NumGoroutine")=false)(i:e.body.isNone=false)(a:Array Value)(w:World):(callFunc f a).run P w=.ok (.enter f a) w:=by
 have k:e.name≠ "runtime.NumGoroutine":=by simpa using d
 obtain⟨c,m⟩:∃c,e.body=some c:=by
  cases h:e.body with
  |none=>rw[h]at i;cases i
  |some c=>exact⟨c,rfl⟩
 simp[callFunc,j,k,m]
theorem vT{P:Program}{d:Array Oper}{o:Oper}{a:Act}{w:World}{K:Act->World->Prop}{Q:Exit->Act->World->Prop}{E:Prop}(id:Nat)(i:∀args w,(callFunc id args).run P w=.ok (.enter id args) w)(j:o.guard=none)(args:Array Operand)(ts:Array TypeId)(r:o.op=.call {callee:=.value (.func id),args:=args,argTypes:=ts})(k:Array Value)(m:args.map a.eval=k)(C:Ending->World->Prop)(s:Calls P id k w C)(h:∀e w',C e w'->∃v,e=.returned v/\K (a.put o.dst v) w'):if Region.wanted o (yielded d a.tmps)=true then Oper.wp P o a w K Q else E:=by
 have t:Region.wanted o (yielded d a.tmps)=true:=by simp[Region.wanted,j]
 rw[av t];have f:(execOp a.eval o).run P w=.ok (.enter id k) w:=by subst m;simp[execOp,r,resolve,invoke,Act.eval,go_sem,i]
 unfold Oper.wp;rw[f,Oper.upon_enter];refine s.mono ?_;intro e w' p;obtain⟨v,rfl,u⟩:=h e w' p;exact u
theorem KS(a:Array Value)(w:World):(callFunc 131 a).run Tryz.prog w=.ok (.enter 131 a) w:=vR Tryz.func131 (by kernel_rfl) (by kernel_rfl) a w
theorem BL(a:Array Value)(w:World):(callFunc 145 a).run Tryz.prog w=.ok (.enter 145 a) w:=vR Tryz.func145 (by kernel_rfl) (by kernel_rfl) a w
theorem Nz(a:Array Value)(w:World):(callFunc 146 a).run Tryz.prog w=.ok (.enter 146 a) w:=vR Tryz.func146 (by kernel_rfl) (by kernel_rfl) a w
theorem GZ(a:Array Value)(w:World):(callFunc 115 a).run Tryz.prog w=.ok (.enter 115 a) w:=vR Tryz.func115 (by kernel_rfl) (by kernel_rfl) a w
abbrev j5:=@Tryz.underlying82
theorem RJ:(Tryz.prog.info? 104).map (fun i=>(i.zero,i.size,i.bytes))=some (some (.agg #[.int .i64 0,.int .i64 0,.int .i64 0,.bool false,.slice none 0 0]),5,56):=by kernel_rfl
abbrev j6:=@RJ
theorem ay.G5{α:Type}{t sz B:Nat}{C f:World->List Value->α->Prop}{w w':World}{v:Value}{xs:List α}(h:ay t sz C B w v xs)(j:∀cs x,C w cs x->f w' cs x)(m:∀g a,v.ownBlock=some g->w.heap[g]?=some (.cells a t (0,0))->w'.heap[g]?=some (.cells a t (0,0))):ay t sz f B w' v xs:=by
 obtain⟨flat,d,p⟩:=h;refine⟨flat,⟨d.1,?_⟩,fun k x r=>?_⟩
 .rcases d.2 with s|⟨g,e,a,i,u,z,rest⟩
  .exact .inl s
  .exact .inr ⟨g,e,a,i,u,m g a (by rw[i];rfl) z,rest⟩
 .obtain⟨cs,A,D⟩:=p k x r;exact⟨cs,j _ _ A,D⟩
theorem RL{α:Type}{P:Program}{w:World}{k:Array Oper}{o:Oper}{a:Act}{K:Act->World->Prop}{Q:Exit->Act->World->Prop}{E:Prop}{t e sz bytes:Nat}{z:Value}(N:P.underlying t=some (.slice e))(O:(P.info? e).map (fun i=>(i.zero,i.size,i.bytes))=some (some z,sz,bytes))(m:z.cells.size=sz)(p:0<sz)(r:bytes<=100){T:List TypeId}{C:World->List Value->α->Prop}(R:fO T C)(S:e∉T)(A:o.guard=none)(s x:Operand)(U:o.op=.call {callee:=.builtin .append,args:=#[s,x],argTypes:=#[t,t]})(B:Nat)(v:Value)(xs:List α)(y:α)(cs:List Value)(tb:TypeId)(f:ay e sz C B w v xs)(V:C w cs y)(D:cs.length=sz)(X:∀u∈cs,u.oneCell'=true)(Y:a.eval s=v)(nb:Nat)(Z:a.eval x=.slice (some ⟨nb,0,none⟩) 1 1)(F:nb=w.heap.size)(hn:xs.length<=1000000000)(hB:B<=w.heap.size)(h:∀g d w',ay e sz C B w' (.slice (some ⟨g,0,none⟩) (xs.length+1) d) (xs++[y])->(w.alloc (.cells cs.toArray tb)).grownBy w' v.ownBlock->K (a.put o.dst (.slice (some ⟨g,0,none⟩) (xs.length+1) d)) w'):if Region.wanted o (yielded k a.tmps)=true then Oper.wp P o a (w.alloc (.cells cs.toArray tb)) K Q else E:=by subst F;obtain⟨i0,hi,G,H,I⟩:=fD O;obtain⟨flat,J,h2⟩:=f;refine step_append_lies _ A s x t U B e i0 z sz bytes N hi G H I m p v xs.length flat Y (World.ownsRow.alloc J _) ⟨w.heap.size,0,none⟩ 1 1 cs Z (by omega) (fun j u hu=>jB w cs tb j u hu) X (by decide) (by unfold maxLen;omega) (aG (yC (show xs.length+1<=1000000001 by omega) r) (by omega)) (by simp;omega) _ rfl ?_;intro g d w' h3 M _ _;refine h g d w' (ay.snoc h2 J.1 R ?_ V D h3) M;refine(au ((aa w).alloc _)).trans (kF M (fun g hg=>?_));obtain⟨L,hh⟩:=jw J g hg;exact⟨L,e,((aa w).alloc _).heap hh,S⟩
abbrev Ic(S:Nat->Prop)(w:World):World->List Value->PG.aD->Prop:=fun _ cs i=>UY S w cs i
theorem U2(S:Nat->Prop)(w:World)(T:List TypeId):fO T (Ic S w):=fun _ _ _ _ _ h=>h
structure xY(S:Nat->Prop)(w:World)(rb xb:Nat)(vl:Value)(n:Int)(l:List PG.aD)(wr:World):Prop where
 new:lS S w
 ext:Ext w wr
 res:wr.heap[rb]?=some (.cells #[.slice none 0 0,.int .i64 0] 150 (0,0))
 box:wr.heap[xb]?=some (.cells #[vl,.int .i64 n] 150 (0,0))
 lo:w.heap.size<=rb
 lt:rb<xb
 own:ay 104 5 (Ic S w) (xb+1) wr vl l
section
variable{S:Nat->Prop}{w wr w':World}{rb xb:Nat}{vl II:Value}{n m:Int}{l l':List PG.aD}
theorem xY.aj(h:xY S w rb xb vl n l wr)(a:Ext wr w'):xY S w rb xb vl n l w':=⟨h.new,h.ext.trans a,a.heap h.res,a.heap h.box,h.lo,h.lt,h.own.G5 (fun _ _ d=>d) (fun _ _ _ e=>a.heap e)⟩
theorem xY.c0(h:xY S w rb xb vl n l wr):wr.cell? ⟨xb,0,none⟩=some vl:=cy 0 h.box
theorem xY.c1(h:xY S w rb xb vl n l wr):wr.cell? ⟨xb,1,none⟩=some (.int .i64 n):=cy 1 h.box
theorem xY.r0(h:xY S w rb xb vl n l wr):wr.cell? ⟨rb,0,none⟩=some (.slice none 0 0):=cy 0 h.res
theorem xY.r1(h:xY S w rb xb vl n l wr):wr.cell? ⟨rb,1,none⟩=some (.int .i64 0):=cy 1 h.res
theorem xY.fr(h:xY S w rb xb vl n l wr)(o:Nat):wr.frozen? ⟨xb,o,none⟩=false:=fq o h.box
theorem xY.frr(h:xY S w rb xb vl n l wr)(o:Nat):wr.frozen? ⟨rb,o,none⟩=false:=fq o h.res
theorem xY.EA(h:xY S w rb xb vl n l wr):xY S w rb xb vl m l (wr.setCell ⟨xb,1,none⟩ (.int .i64 m)):=by
 have a:rb≠xb:=by have:=h.lt;omega
 refine⟨h.new,h.ext.set (p:=⟨xb,1,none⟩) (by have:=h.lo;have:=h.lt;show w.heap.size<=xb;omega) _,(gJ a).trans h.res,aP h.box,h.lo,h.lt,h.own.G5 (fun _ _ d=>d) (fun g e f i=>?_)⟩;have:=(h.own.lt g f).1;rw[gJ (by omega:g≠xb)];exact i
theorem xY.ab4(h:xY S w rb xb vl n l wr)(a:wr.grownBy w' vl.ownBlock):w'.heap[xb]?=some (.cells #[vl,.int .i64 n] 150 (0,0)):=(a.block xb (ag h.box) (by intro e;have:=(h.own.lt xb e.symm).1;omega)).trans h.box
theorem xY.app(h:xY S w rb xb vl n l wr)(j:ay 104 5 (Ic S w) (xb+1) w' II l')(d:wr.grownBy w' vl.ownBlock):xY S w rb xb II n l' (w'.setCell ⟨xb,0,none⟩ II):=by
 have f:rb≠xb:=by have:=h.lt;omega
 have a:=fun k i=>(h.own.lt k i).1;have r:w'.heap[rb]?=some (.cells #[.slice none 0 0,.int .i64 0] 150 (0,0)):=(d.block rb (ag h.res) (by intro e;have:=a rb e.symm;have:=h.lt;omega)).trans h.res;refine⟨h.new,(h.ext.grown d (fun k i=>by have:=a k i;have:=h.lo;have:=h.lt;omega)).set (p:=⟨xb,0,none⟩) (by have:=h.lo;have:=h.lt;show w.heap.size<=xb;omega) _,(gJ f).trans r,aP (h.ab4 d),h.lo,h.lt,?_⟩;refine j.G5 (fun _ _ s=>s) (fun g t u v=>?_);have:=(j.lt g u).1;rw[gJ (by omega:g≠xb)];exact v
theorem xY.KT(h:xY S w rb xb vl n l wr):lT S wr vl l:=by
 obtain⟨A,c,i,p,r,d,s⟩:=h.own.sl;subst i;refine⟨h.new.ext h.ext,A,c,rfl,p,r,fun k x e=>?_,d⟩;cases A with
 |none=>have:=d rfl;obtain⟨E,-⟩:=dh.1 e;omega
 |some t=>obtain⟨g,o,a,rfl,F,v,_,z⟩:=s t rfl;obtain⟨B,f,C⟩:=z k x e;refine⟨g,o,rfl,h.new g (by have:=h.lo;have:=h.lt;omega),B,UY.ext f h.ext,?_,fun j u D=>(cell_of_row wr g _ a _ (0,0) v).trans (C j u D)⟩;obtain⟨G,rfl,_⟩:=f;rfl
theorem xY.adI(h:xY S w rb xb vl n l wr){d:Addr}{m c:Nat}(e:vl=.slice (some d) m c):w.heap.size<=d.block/\d.block≠rb/\∃a,wr.heap[d.block]?=some (.cells a 104 (0,0)):=by subst e;obtain⟨A,k,e,p,r,s,f⟩:=h.own.sl;injection e with i _ _;obtain⟨g,o,a,rfl,t,j,_⟩:=f d i.symm;have:=h.lo;have:=h.lt;exact⟨by show w.heap.size<=g;omega,by show g≠rb;omega,a,j⟩
theorem xY.adJ(h:xY S w rb xb vl n l wr){p:PG.Part}{A:Option Addr}{c:Nat}(a:lT S wr (.slice A p.l.length c) p.l):lh S p w (.returned (.agg #[.slice A p.l.length c,.int .i64 (p.n:Int)])) ((wr.setCell ⟨rb,0,none⟩ (.slice A p.l.length c)).setCell ⟨rb,1,none⟩ (.int .i64 (p.n:Int))):=⟨(h.ext.set (p:=⟨rb,0,none⟩) h.lo _).set (p:=⟨rb,1,none⟩) h.lo _,A,c,rfl,a.off h.res (by intro x h;cases h) (fun i hi=>(gJ hi).trans (gJ hi)) (by simp)⟩
end
theorem Qh{v u x y:Value}(h:Ending.returned (.agg #[v,x])=.returned (.agg #[u,y])):v=u:=by injection h with h;injection h with h;simp at h;exact h.1
def adK(S:Nat->Prop)(p:PG.Part)(w:World)(e:Ending)(w':World):Prop:=lh S p w e w'/\∀(ad:Addr)(m c:Nat)(x:Value),e=.returned (.agg #[.slice (some ad) m c,x])->w.heap.size<=ad.block/\∃cur,w'.heap[ad.block]?=some (.cells cur 104 (0,0))
def zl(ps:List PG.Part):Prop:=∀p∈ps,PG.wK p/\∀i∈p.l,U0 i
theorem KN{S:Nat->Prop}(h:List PG.Part)(v:Value)(w:World)(hs:Dg S w v h)(hp:zl h):Calls Tryz.prog 115 #[v] w (adK S (PG.row h) w):=by
 obtain⟨A,c,rfl,hlc,hcc⟩:=hs.form;have X7:=jd hs.1;have HS:=jd hs;have HP:=jd hp;obtain⟨R,hR⟩:∃R,PG.row h=R:=⟨_,rfl⟩;have HR:=jd hR;rw[hR];clear hs hp hR;go_enter Tryz.func115,Tryz.ntmps115;go_upto_region 3 with fail;obtain⟨u,H⟩:∃u,u=w.heap.size:=⟨_,rfl⟩;obtain⟨r,I⟩:∃r,r=w.heap.size+1:=⟨_,rfl⟩;have J:=jd H;have Q:=jd I;rw[<-I,<-H];clear I H;go_loopw[11](fun x wr=>∃(k:Nat)(T:Value)(n:Nat)(l:List PG.aD),k<=h.length/\x=.int .i64 (k:Int)/\xY S w u r T n l wr/\n<301/\l.length=n/\PG.za ⟨l,n⟩ (h.drop k)=R)(fun x _=>h.length-(intOf x).toNat);case atStart=>
  refine⟨0,.slice none 0 0,0,[],aL _,rfl,⟨X7.o,?_,?_,?_,?_,?_,dO⟩,by decide,rfl,HR.o⟩
  .exact((aa w).alloc _).alloc _
  .rw[J.o];exact((aa _).alloc _).heap (aB w _)
  .rw[Q.o];(have hh:=aB (w.alloc (.cells #[.slice none 0 0,.int .i64 0] 150)) (.cells #[.slice none 0 0,.int .i64 0] 150));rw[show(w.alloc (.cells #[.slice none 0 0,.int .i64 0] 150)).heap.size=w.heap.size+1 by simp]at hh;exact hh
  .rw[J.o];exact az _
  .rw[J.o,Q.o];omega
 case round=>
  obtain⟨k,T,n,l,hk,rfl,a,KU,U,hT⟩:=hrel;have f:=jd a;have HT:=jd hT;have c0:=a.c0;have c1:=a.c1;have r0:=a.r0;have r1:=a.r1;have O:=a.fr 0;have f1:=a.fr 1;have q0:=a.frr 0;have q1:=a.frr 1;have V:=ag a.box;have K:=ag a.res;have hrx:u≠r:=Nat.ne_of_lt a.lt;have hxr:r≠u:=(Nat.ne_of_lt a.lt).symm;have B:=a.lo;have X:w.heap.size<=r:=aG a.lo (Nat.le_of_lt a.lt);have hll:l.length<=300:=by omega
  have WO:=jd U;clear U;obtain⟨Al,cl,rfl,hcl,-⟩:=a.own.form;clear a hT;by_cases L:k<h.length;rotate_left
  .have P:=jd (show R=⟨l,n⟩by rw[<-HT.o,jg (by omega),PG.za]);go_wp2_with fail;rw[P.o];refine bC (v:=.agg #[.slice Al l.length cl,.int .i64 (n:Int)]) (by simp[results,Tryz.results115,go_sem,r0,r1]) rfl ?_;refine⟨f.o.adJ (p:=⟨l,n⟩) f.o.KT,fun ad m c' x he=>?_⟩;have hv:=Qh he;obtain⟨z,s,cur,Y⟩:=f.o.adI hv;exact⟨z,cur,((gJ s).trans (gJ s)).trans Y⟩
  have M:=jd (show PG.za ⟨l,n⟩ (h[k]::h.drop (k+1))=R by rw[<-HT.o,ed L]);have Z:=jd (HP.o h[k] (bK L));obtain⟨g,o,C,rfl,⟨Ap,cp,rfl,hlp⟩,d⟩:=HS.o.atP L;have HLP:=jd hlp;have d0:wr.cell? ⟨g,o+k*2,none⟩=_:=f.o.ext.cell (d 0 _ rfl);have d1:wr.cell? ⟨g,o+k*2+1,none⟩=_:=f.o.ext.cell (d 1 _ rfl);generalize h[k]=p at M Z HLP d0 d1;have aeU:p.l.length<=p.n:=by rcases Z.o.1 with⟨z,s⟩|⟨z,s⟩;omega;rw[s];simp
  have hpn:p.n<=301:=by rcases Z.o.1 with⟨z,s⟩|⟨z,s⟩<;>omega
  clear hlp d;by_cases t:301<=n+p.n
  .have P:=jd (show R=⟨[],301⟩by rw[<-M.o,PG.za,av t]);have U4:(301:Int)<=(n:Int)+p.n:=by omega
   have adL:¬((n:Int)+p.n<301):=by omega
   rcases Int.lt_or_eq_of_le U4 with Y|Y;focus
    have h4:¬((n:Int)+p.n<=301):=by omega
    clear t U4
   rotate_left;focus
    have h4:(n:Int)+p.n=301:=Y.symm;clear t U4 adL Y
   rotate_left;all_goals
    go_wp2_with fail;rw[P.o];refine bC (v:=.agg #[.slice none 0 0,.int .i64 301]) (by simp[results,Tryz.results115,go_sem,r0,r1,K]) rfl ?_;refine⟨⟨((((f.o.ext.set (p:=⟨r,1,none⟩) X _).set (p:=⟨u,0,none⟩) B _).set (p:=⟨u,1,none⟩) B _).alloc _),none,0,rfl,lT.eU (f.o.new.ext ((((f.o.ext.set (p:=⟨r,1,none⟩) X _).set (p:=⟨u,0,none⟩) B _).set (p:=⟨u,1,none⟩) B _).alloc _))⟩,fun ad m c' x he=>?_⟩;have hv:=Qh he;cases hv
  have HT3:=jd (show PG.za ⟨l++p.l.map (PG.moved l.length),n+p.n⟩ (h.drop (k+1))=R by rw[<-M.o,PG.za,ae t]);have U4:(n:Int)+p.n<301:=by omega
  have HPE:=jd (show p.l.length=p.n by rcases Z.o.1 with⟨z,s⟩|⟨z,s⟩<;>omega);have HTO:=jd t;clear t;have hb3:((n:Int)+p.n==301)=false:=by simp;omega
  go_upto_region 10 with fail;have kJ:=jd ((f.o.EA (m:=(n:Int)+p.n)).aj ((aa _).alloc (.cells #[.slice Ap p.l.length cp,.int .i64 (p.n:Int)] 150)));clear c0 c1 r0 r1 O f1 q0 q1 d0 d1 f U4;generalize(wr.setCell ⟨r,1,none⟩ (.int .i64 ((n:Int)+p.n))).alloc (.cells #[.slice Ap p.l.length cp,.int .i64 (p.n:Int)] 150)=w1 at kJ⊢;go_loopw[32](fun x wx=>∃(j:Nat)(T:Value),j<=p.l.length/\x=.int .i64 (j:Int)/\xY S w u r T ((n:Int)+p.n) (l++(p.l.take j).map (PG.moved l.length)) wx)(fun x _=>p.l.length-(intOf x).toNat);case atStart=>exact⟨0,_,aL _,rfl,by simpa using kJ.o⟩
  case round=>
   obtain⟨j,T,hj,rfl,a⟩:=hrel;obtain⟨l2,D⟩:∃l2,l++(p.l.take j).map (PG.moved l.length)=l2:=⟨_,rfl⟩;have afb:l2.length<=601:=by rw[<-D,ai,fP,kg];omega
   have HL2:=jd D;rw[D]at a;have f:=jd a;have c0:=a.c0;have c1:=a.c1;have r0:=a.r0;have r1:=a.r1;have O:=a.fr 0;have f1:=a.fr 1;have V:=ag a.box;have K:=ag a.res;obtain⟨Al2,cl2,rfl,adM,-⟩:=a.own.form;clear a D;by_cases N:j<p.l.length;rotate_left
   .have P:=jd (show l2=l++p.l.map (PG.moved l.length)by rw[<-HL2.o,pU (by omega)]);go_wp2_with fail;go_roundw;case rel=>exact⟨k+1,_,n+p.n,l2,by omega,by go_num,by push_cast;exact f.o,(by have:=HTO.o;omega),by rw[P.o,ai,fP,HPE.o,WO.o],by rw[P.o];exact HT3.o⟩
    case measure=>simp[intOf];omega
   obtain⟨g2,o2,cs2,rfl,⟨vs,rfl,hvs⟩,d⟩:=HLP.o.P5 N;have e0:wr.cell? ⟨g2,o2+j*5,none⟩=_:=f.o.ext.cell (d 0 _ rfl);have e1:wr.cell? ⟨g2,o2+j*5+1,none⟩=_:=f.o.ext.cell (d 1 _ rfl);have e2:wr.cell? ⟨g2,o2+j*5+2,none⟩=_:=f.o.ext.cell (d 2 _ rfl);have e3:wr.cell? ⟨g2,o2+j*5+3,none⟩=_:=f.o.ext.cell (d 3 _ rfl);have e4:wr.cell? ⟨g2,o2+j*5+4,none⟩=_:=f.o.ext.cell (d 4 _ rfl);have HMV:=jd (Z.o.2 _ (bK N));have uw:=jd (show l2++[PG.moved l.length p.l[j]]=l++(p.l.take (j+1)).map (PG.moved l.length)by rw[<-HL2.o,kE N,jS,lL];rfl);obtain⟨G,C,rfl,afc,-⟩:=id hvs;have TZ:=jd hvs;clear d hvs;generalize p.l[j]=i at*;have X8:=jd (fun W=>RI i l.length G i.set.length C W HMV.o (by omega));have HIC:=jd (show UY S w [.int .i64 (PG.moved l.length i).op,.int .i64 (PG.moved l.length i).x,.int .i64 (PG.moved l.length i).y,.bool (PG.moved l.length i).neg,.slice G i.set.length C] (PG.moved l.length i)from⟨_,rfl,by rw[PG.rq];exact TZ.o⟩);generalize PG.moved l.length i=E at X8 HIC uw;go_upto_region 12 with fail;have bQ:=jd (f.o.aj ((aa _).alloc (.cells #[.int .i64 i.op,.int .i64 i.x,.int .i64 i.y,.bool i.neg,.slice G i.set.length C] 104)));have F:=aB wr (.cells #[.int .i64 i.op,.int .i64 i.x,.int .i64 i.y,.bool i.neg,.slice G i.set.length C] 104);clear c0 c1 r0 r1 O f1 e0 e1 e2 e3 e4 f V K;generalize wr.alloc (.cells #[.int .i64 i.op,.int .i64 i.x,.int .i64 i.y,.bool i.neg,.slice G i.set.length C] 104)=w3 at bQ F⊢;generalize wr.heap.size=nb at F⊢;have c0:=bQ.o.c0;have O:=bQ.o.fr 0;obtain⟨e0,e1,e2,e3,e4⟩:=cc5 F;clear F;have adN:l2.length<=1000000000:=by omega
   go_region_law(first|(refine vT 131 KS rfl _ _ rfl #[.agg #[.int .i64 i.op,.int .i64 i.x,.int .i64 i.y,.bool i.neg,.slice G i.set.length C],.int .i64 l.length] ?hvs _ (X8.o _) ?_;(case hvs=>(simp[go_sem]));rintro e w4⟨hx,rfl⟩;refine⟨_,rfl,?_⟩;(have bS:=jd (bQ.o.aj (((aa _).drew).trans hx));have c0:=bS.o.c0;have O:=bS.o.fr 0;have adO:r<w4.heap.size:=ag bS.o.box;have hB4:r+1<=w4.heap.size:=adO;clear hx))|(refine RL j5 j6 rfl (by decide) (by decide) (U2 S w []) (by simp) rfl _ _ (by rfl) (r+1) _ l2 E [.int .i64 E.op,.int .i64 E.x,.int .i64 E.y,.bool E.neg,.slice G i.set.length C] 104 bS.o.own HIC.o rfl (by simp[Value.oneCell']) (by rfl) w4.heap.size (by rfl) rfl adN hB4 ?_;intro gg cap w5 z s;have cB:=jd (bS.o.aj ((aa w4).alloc (.cells #[.int .i64 E.op,.int .i64 E.x,.int .i64 E.y,.bool E.neg,.slice G i.set.length C] 104)));have hb:=cB.o.ab4 s;obtain⟨c0,O⟩:=jf1 hb;have HF:=jd (cB.o.app z s);clear hb z s));all_goals
    go_wp2_with fail;go_roundw;case rel=>exact⟨j+1,_,by omega,by go_num,by rw[<-uw.o];exact HF.o⟩
    case measure=>simp[intOf];omega
theorem mX{S:Nat->Prop}(a:List PG.Part)(v:Value)(w:World)(d:Dg S w v a)(e:zl a):Calls Tryz.prog 115 #[v] w (lh S (PG.row a) w):=(KN a v w d e).mono fun _ _ h=>h.1
end Go.Proofs.YtcogknbbbjnaiaaGreatDoor
