/- For ShowTells: what the texts XSigns XSort XRdr XUnder XMxV XRcl of wip/tpl say. -/
import Derived.Test.YtcogknbbbjnaiaaGreatDoorB
import Derived.Test.YtcogknbbbjnaiaaGreatDoorC
import Derived.Test.YtcogknbbbjnaiaaGreatDoorF
set_option maxRecDepth 100000
set_option maxHeartbeats 2000000
namespace Go.Proofs.YtcogknbbbjnaiaaGreatDoor
open Go.RowKit
def lW(v:Value)(w:World)(e:Ending)(w':World):Prop:=e=.returned v/\∃n,w'=w.drewN n
theorem FN(r a b:Int)(w:World):Calls Tryz.prog 137 #[.int .i32 r,.int .i32 a,.int .i32 b] w (lW (.bool (RX.within r a b)) w):=by
 by_cases e:a<=r;focus
  by_cases f:r<=b;focus
   have d:=jd (show RX.within r a b=true by simp[RX.within,e,f])
  rotate_left;focus
   have d:=jd (show RX.within r a b=false by simp[RX.within,f])
  rotate_left
 rotate_left 2;focus
  have d:=jd (show RX.within r a b=false by simp[RX.within,e])
 rotate_left;all_goals
  go_enter Tryz.func137,Tryz.ntmps137;go_wp2_with fail;go_ret;exact⟨aH (by rw[d.o];rfl),0,rfl⟩
theorem Uj(r:Int)(w:World):Calls Tryz.prog 83 #[.int .i32 r] w (lW (.bool (RX.aQ r)) w):=by
 by_cases a:0<=r<;>by_cases d:r<=1114111<;>by_cases e:r<55296<;>by_cases f:57343<r;all_goals first|(exfalso;omega)|skip
 all_goals
  go_enter Tryz.func83,Tryz.ntmps83;go_wp2_with fail;go_ret;exact⟨aH (by simp[RX.aQ];omega),0,rfl⟩
theorem GR(r:Int)(w:World):Calls Tryz.prog 120 #[.int .i32 r] w (lW (.int .i64 (RX.bE r)) w):=by
 go_enter Tryz.func120,Tryz.ntmps120;go_wp2_with(first|(go_at_call 83;refine(Uj _ _).mono ?_;rintro e a⟨rfl,n,rfl⟩)|(go_at_call 137;refine(FN _ _ _ _).mono ?_;rintro e a⟨rfl,n,rfl⟩));all_goals
  go_ret;refine⟨aH ?_,_,rfl⟩;simp_all[RX.bE]
theorem within_iff{r a b:Int}:RX.within r a b=true<->a<=r/\r<=b:=by simp[RX.within]
theorem qU(r:Int)(w:World):Calls Tryz.prog 167 #[.int .i32 r] w (lW (.int .i32 (RX.lower r)) w):=by
 by_cases d:RX.within r 65 90=true;focus
  have a:=within_iff.1 d;obtain⟨f,h⟩:=a
 rotate_left;focus
  by_cases i:RX.within r 192 222=true;focus
   have a:=within_iff.1 i;obtain⟨f,h⟩:=a
  rotate_left;rotate_left
 rotate_left 2;all_goals
  go_enter Tryz.func167,Tryz.ntmps167;go_wp2_with(go_at_call 137;refine(FN _ _ _ _).mono ?_;rintro e j⟨rfl,n,rfl⟩);all_goals
   go_ret;refine⟨aH ?_,_,rfl⟩;simp_all[RX.lower]
theorem He(c:Int)(w:World):Calls Tryz.prog 170 #[.int .i32 c] w (lW (.int .i64 (RX.digit c)) w):=by
 by_cases a:c<48<;>by_cases d:57<c
 .exfalso;omega
 all_goals
  go_enter Tryz.func170,Tryz.ntmps170;go_wp2_with fail;go_ret;refine⟨aH ?_,0,rfl⟩;simp[RX.digit];omega
theorem uB(c:Int)(w:World):Calls Tryz.prog 168 #[.int .i32 c] w (lW (.tuple #[.int .i32 ((RX.eF c).getD 0),.bool (RX.eF c).isSome]) w):=by
 go_enter Tryz.func168,Tryz.ntmps168;go_wp2_with(go_at_call 120;refine(GR _ _).mono ?_;rintro e a⟨rfl,n,rfl⟩);all_goals
  go_ret2;first|refine⟨aH ?_,_,rfl⟩|refine⟨aH ?_,0,rfl⟩
  simp_all[RX.eF]
def Cc(_:World)(cs:List Value)(x:Int):Prop:=cs=[.int .i32 x]
theorem YV(T:List TypeId):fO T Cc:=fun _ _ _ _ _ h=>h
abbrev dQ:=@YV
theorem zn{B:Nat}(w:World)(xs:List Int)(d:B<=w.heap.size)(f:xs.length<=1000):ay 21 1 Cc B (w.alloc (.cells (xs.map (Value.int .i32)).toArray 21)) (.slice (some ⟨w.heap.size,0,none⟩) xs.length xs.length) xs:=jP _ xs _ _ rfl rfl d (by omega) (by simp) fun k x e=>⟨[.int .i32 x],rfl,rfl,fun i u a=>by match i,a with|0,a=>simp at a;subst a;simp[e]⟩
def aeQ(B:Nat)(w:World)(v:Value):Option (List Int)->Prop
|none=>v=.slice none 0 0
|some l=>ay 21 1 Cc B w v l/\∃g,v=.slice (some ⟨g,0,none⟩) l.length l.length
theorem Kj(c:Int)(w:World):Calls Tryz.prog 166 #[.int .i32 c] w (Du (fun w' v=>aeQ w.heap.size w' v (RX.dA c)) w):=by
 by_cases a:c=100
 .subst a;go_enter Tryz.func166,Tryz.ntmps166;go_wp2_with fail;go_ret;exact⟨_,rfl,⟨zn w [48,57] (az _) (by decide),_,rfl⟩,(aa w).alloc _⟩
 by_cases d:c=119
 .subst d;go_enter Tryz.func166,Tryz.ntmps166;go_wp2_with fail;go_ret;exact⟨_,rfl,⟨zn w [97,122,65,90,48,57,95,95] (az _) (by decide),_,rfl⟩,(aa w).alloc _⟩
 by_cases e:c=115
 .subst e;go_enter Tryz.func166,Tryz.ntmps166;go_wp2_with fail;go_ret;exact⟨_,rfl,⟨zn w [32,32,9,9,10,10] (az _) (by decide),_,rfl⟩,(aa w).alloc _⟩
 have h:(c==100)=false:=by simpa using a
 have i:(c==119)=false:=by simpa using d
 have j:(c==115)=false:=by simpa using e
 have f:=jd (show RX.dA c=none by simp[RX.dA,a,d,e]);clear a d e;go_enter Tryz.func166,Tryz.ntmps166;go_wp2_with fail;go_ret;exact⟨_,rfl,by rw[f.o];rfl,aa w⟩
abbrev Only(w w':World)(p:Nat):Prop:=w.grownBy w' (some p)
theorem Only.refl(w:World)(p:Nat):Only w w p:=sV _ _
abbrev aJ:=@Only.refl
theorem Only.Nn{w w':World}(h:Ext w w')(p:Nat):Only w w' p:=⟨Below.os h,Below.tape h,Below.output h,Below.size h,fun i hi _=>Below.block h i hi⟩
abbrev iO:=@Only.Nn
theorem Only.trans{a b c:World}{p:Nat}(h:Only a b p)(k:Only b c p):Only a c p:=⟨k.os.trans h.os,k.tape.trans h.tape,k.output.trans h.output,aG h.size k.size,fun i hi d=>(k.block i (mJ hi h.size) d).trans (h.block i hi d)⟩
abbrev eO:=@Only.trans
theorem Only.set{a w:World}{p o:Nat}(h:Only a w p)(u:Value):Only a (w.setCell ⟨p,o,none⟩ u) p:=⟨h.os,h.tape,h.output,by simpa using h.size,fun i hi d=>(Below.heap_setCell w ⟨p,o,none⟩ u i (by rintro rfl;exact d rfl)).trans (h.block i hi d)⟩
abbrev fI:=@Only.set
theorem Only.drewN{a w:World}{p:Nat}(h:Only a w p)(n:Nat):Only a (w.drewN n) p:=⟨h.os,h.tape,h.output,h.size,h.block⟩
abbrev fT:=@Only.drewN
theorem Only.alloc{a w:World}{p:Nat}(h:Only a w p)(o:Obj):Only a (w.alloc o) p:=⟨h.os,h.tape,h.output,aG h.size (by simp),fun i hi d=>(Below.heap_alloc w o i (mJ hi h.size)).trans (h.block i hi d)⟩
abbrev fJ:=@Only.alloc
theorem Ext.only{a w w':World}{p:Nat}(h:Ext a w)(k:Only w w' p)(e:a.heap.size<=p):Ext a w':=h.grown k (by intro q d;injection d with d;omega)
theorem Only.gM{w w':World}{p:Nat}(h:Only w w' p){a:Array Value}{t:TypeId}(e:w.heap[p]?=some (.cells a t (0,0))){T:List TypeId}(f:t∉T):aV T w w':=kF h (by intro g d;injection d with d;subst d;exact⟨a,t,e,f⟩)
def RS(rb:Nat)(sv:Value)(w:World)(st:RX.St):Prop:=w.heap[rb]?=some (.cells #[sv,.int .i64 st.at_,.int .i64 st.op,.int .i64 st.aC,.int .i64 st.code,.int .i64 st.gL] 158 (0,0))
def Env(w0:World)(rb:Nat)(sv:Value)(s:List Int)(w:World)(st:RX.St):Prop:=ib w0 sv s/\w0.heap.size<=rb/\s.length<=60/\Ext w0 w/\RS rb sv w st
theorem Env.rs{w0:World}{rb:Nat}{sv:Value}{s:List Int}{w:World}{st:RX.St}(h:Env w0 rb sv s w st):RS rb sv w st:=h.2.2.2.2
theorem Env.len{w0:World}{rb:Nat}{sv:Value}{s:List Int}{w:World}{st:RX.St}(h:Env w0 rb sv s w st):s.length<=60:=h.2.2.1
theorem Env.step{w0:World}{rb:Nat}{sv:Value}{s:List Int}{w w':World}{st a:RX.St}(h:Env w0 rb sv s w st)(d:Only w w' rb)(e:RS rb sv w' a):Env w0 rb sv s w' a:=⟨h.1,h.2.1,h.2.2.1,h.2.2.2.1.only d h.2.1,e⟩
theorem Env.drewN{w0:World}{rb:Nat}{sv:Value}{s:List Int}{w:World}{st:RX.St}(h:Env w0 rb sv s w st)(n:Nat):Env w0 rb sv s (w.drewN n) st:=⟨h.1,h.2.1,h.2.2.1,h.2.2.2.1.drewN n,h.2.2.2.2⟩
abbrev aZ:=@Env.drewN
theorem RS.c0{rb:Nat}{sv:Value}{w:World}{st:RX.St}(h:RS rb sv w st):w.cell? ⟨rb,0,none⟩=some sv:=cy 0 h
theorem RS.c1{rb:Nat}{sv:Value}{w:World}{st:RX.St}(h:RS rb sv w st):w.cell? ⟨rb,1,none⟩=some (.int .i64 st.at_):=cy 1 h
theorem RS.c2{rb:Nat}{sv:Value}{w:World}{st:RX.St}(h:RS rb sv w st):w.cell? ⟨rb,2,none⟩=some (.int .i64 st.op):=cy 2 h
theorem RS.c3{rb:Nat}{sv:Value}{w:World}{st:RX.St}(h:RS rb sv w st):w.cell? ⟨rb,3,none⟩=some (.int .i64 st.aC):=cy 3 h
theorem RS.c4{rb:Nat}{sv:Value}{w:World}{st:RX.St}(h:RS rb sv w st):w.cell? ⟨rb,4,none⟩=some (.int .i64 st.code):=cy 4 h
theorem RS.c5{rb:Nat}{sv:Value}{w:World}{st:RX.St}(h:RS rb sv w st):w.cell? ⟨rb,5,none⟩=some (.int .i64 st.gL):=cy 5 h
theorem RS.fr{rb:Nat}{sv:Value}{w:World}{st:RX.St}(h:RS rb sv w st)(o:Nat):w.frozen? ⟨rb,o,none⟩=false:=fq o h
theorem heap_set{w:World}{p o:Nat}{cs:Array Value}{u:Value}{t:TypeId}(h:w.heap[p]?=some (.cells cs t (0,0))):(w.setCell ⟨p,o,none⟩ u).heap[p]?=some (.cells (cs.setIfInBounds o u) t (0,0)):=by simp[World.setCell,Array.getElem?_modify,h]
abbrev aP:=@heap_set
theorem RS.set2{rb:Nat}{sv:Value}{w:World}{st:RX.St}(h:RS rb sv w st)(n:Nat):RS rb sv (w.setCell ⟨rb,2,none⟩ (.int .i64 n)) {st with op:=n}:=aP h
theorem RS.aap{rb:Nat}{sv:Value}{w:World}{st:RX.St}(h:RS rb sv w st)(n:Nat):RS rb sv (w.setCell ⟨rb,3,none⟩ (.int .i64 n)) {st with aC:=n}:=aP h
theorem RS.Vp{rb:Nat}{sv:Value}{w:World}{st:RX.St}(h:RS rb sv w st)(c b:Int):RS rb sv ((w.setCell ⟨rb,4,none⟩ (.int .i64 c)).setCell ⟨rb,5,none⟩ (.int .i64 b)) {st with code:=c,gL:=b}:=aP (aP h)
theorem RS.drewN{rb:Nat}{sv:Value}{w:World}{st:RX.St}(h:RS rb sv w st)(n:Nat):RS rb sv (w.drewN n) st:=h
theorem RS.ext{rb:Nat}{sv:Value}{w w':World}{st:RX.St}(h:RS rb sv w st)(a:Ext w w'):RS rb sv w' st:=a.heap h
theorem dd{w:World}{a b:Nat}:∃n,(w.drewN a).drewN b=w.drewN n:=⟨a+b,by rw[World.drewN_drewN]⟩
def mH(R:World->Value->Prop)(rb:Nat)(sv:Value)(w:World)(st':RX.St)(hi:Nat)(e:Ending)(w':World):Prop:=∃v,e=.returned v/\R w' v/\RS rb sv w' st'/\Only w w' rb/\st'.at_<=hi
def zo(v:Value)(rb:Nat)(sv:Value)(w:World)(st':RX.St)(hi:Nat)(e:Ending)(w':World):Prop:=e=.returned v/\RS rb sv w' st'/\Only w w' rb/\st'.at_<=hi
section
variable{w0:World}{rb:Nat}{sv:Value}{s:List Int}
theorem Ld(n:Nat)(w:World)(st:RX.St)(i:Env w0 rb sv s w st)(v:n<=2)(z:st.at_<=10000):Calls Tryz.prog 148 #[.pointer (some ⟨rb,0,none⟩),.int .i64 n] w (lW (.int .i32 (RX.aR s st n)) w):=by
 obtain⟨e,j,B,f,d⟩:=i;have c0:=d.c0;have c1:=d.c1;have m:=jd (e.ext f);obtain⟨A,C,rfl,p,r,_⟩:=e;clear d f;by_cases h:s.length<=st.at_+n
 .have a:=jd (show RX.aR s st n=-1 by unfold RX.aR;rw[gD h];rfl);have t:decide ((s.length:Int)-st.at_<=n)=true:=by simp;omega
  go_enter Tryz.func148,Tryz.ntmps148;go_wp2_with fail;go_quiet(fail);go_wp2_with fail;go_ret;exact⟨aH (by rw[a.o];rfl),_,rfl⟩
 .obtain⟨b,o,rfl,u⟩:=m.o.at_ (k:=st.at_+n) (by omega);have a:=jd (show RX.aR s st n=s[st.at_+n]by unfold RX.aR;rw[aU (by omega)];rfl);generalize s[st.at_+n]=x at a u;have t:decide ((s.length:Int)-st.at_<=n)=false:=by simp;omega
  have D:st.at_+n<s.length:=by omega
  go_enter Tryz.func148,Tryz.ntmps148;go_wp2_with fail;go_quiet(fail);go_wp2_with fail;go_quiet(fail);go_wp2_with fail;go_ret;exact⟨aH (by rw[a.o];rfl),dd⟩
theorem Vq(w:World)(st:RX.St)(a:Env w0 rb sv s w st)(d:st.at_<=10000):Calls Tryz.prog 139 #[.pointer (some ⟨rb,0,none⟩)] w (lW (.int .i32 (RX.aR s st 0)) w):=by have H:=jd (Ld 0 w st a (by omega) d);clear a;go_enter Tryz.func139,Tryz.ntmps139;go_wp2_with fail;refine H.o.mono ?_;rintro e f⟨rfl,n,rfl⟩;go_wp2_with fail;go_ret;exact⟨rfl,_,rfl⟩
abbrev iH:=@Vq
theorem fF(w:World)(st:RX.St)(a:Env w0 rb sv s w st):Calls Tryz.prog 122 #[.pointer (some ⟨rb,0,none⟩)] w (lW (.bool st.ok) w):=by have c4:=a.rs.c4;clear a;go_enter Tryz.func122,Tryz.ntmps122;go_wp2_with fail;go_ret;exact⟨rfl,0,rfl⟩
theorem gW(w:World)(st:RX.St)(c b:Int)(e:Env w0 rb sv s w st):Calls Tryz.prog 123 #[.pointer (some ⟨rb,0,none⟩),.int .i64 c,.int .i64 b] w (zo (.tuple #[]) rb sv w (st.fail c b) st.at_):=by
 have a:=e.rs;have c4:=a.c4;have c5:=a.c5;have j:=a.fr 4;have k:=a.fr 5;have f:=jd a;clear e a;by_cases h:st.code=0
 .have d:=jd (show st.fail c b={st with code:=c,gL:=b}by simp[RX.St.fail,h]);have i:(st.code==0)=true:=by simp[h]
  clear h;go_enter Tryz.func123,Tryz.ntmps123;go_wp2_with fail;go_end0;refine⟨rfl,?_,?_,?_⟩
  .rw[d.o];exact f.o.Vp c b
  .exact((aJ w rb).set _).set _
  .rw[d.o];exact az _
 .have d:=jd (show st.fail c b=st by simp[RX.St.fail,h]);have i:(st.code==0)=false:=by simpa using h
  clear h;go_enter Tryz.func123,Tryz.ntmps123;go_wp2_with fail;go_end0;refine⟨rfl,?_,aJ w rb,by rw[d.o];exact az _⟩;rw[d.o];exact f.o
end
theorem Qt:(Tryz.prog.info? 126).map (fun i=>(i.zero,i.size,i.bytes))=some (some (.agg #[.int .i64 0,.int .i64 0,.int .i64 0,.int .i64 0,.bool false,.bool false,.slice none 0 0]),7,64):=by kernel_rfl
theorem vD:(Tryz.prog.info? 99).map (fun i=>(i.zero,i.size,i.bytes))=some (some (.slice none 0 0),1,24):=by kernel_rfl
theorem gQ:(Tryz.prog.info? 21).map (fun i=>(i.zero,i.size,i.bytes))=some (some (.int .i32 0),1,4):=by kernel_rfl
def CR(B:Nat)(w:World)(cs:List Value)(x:RX.aA):Prop:=∃sv,cs=[.int .i64 x.kind,.int .i64 x.deep,.int .i64 x.lo,.int .i64 x.hi,.bool x.lazy,.bool x.neg,sv]/\aT 21 1 Cc B w sv x.set
theorem WL(B:Nat):fO [21] (CR B):=fun _ _ _ _ a⟨d,e,f⟩=>⟨d,e,f.keep (dQ []) (a.sub (by simp)) a⟩
abbrev dE:=@WL
abbrev uO(B base:Nat)(w:World)(v:Value)(l:List RX.aA):Prop:=ay 126 7 (CR B) base w v l
abbrev dI(B base:Nat)(w:World)(v:Value)(l:List RX.aA):Prop:=aT 126 7 (CR B) base w v l
def CL(B:Nat)(w:World)(cs:List Value)(l:List RX.aA):Prop:=∃v,cs=[v]/\dI B B w v l
theorem Pb(B:Nat):fO [126,21] (CL B):=fun _ _ _ _ a⟨v,d,e⟩=>⟨v,d,e.keep (dE B) (a.sub (by simp)) (a.sub (by simp))⟩
theorem CR.one{B:Nat}{w:World}{cs:List Value}{x:RX.aA}(h:CR B w cs x):∀u∈cs,u.oneCell'=true:=by obtain⟨e,rfl,d⟩:=h;obtain⟨A,c,rfl,_⟩:=d;intro u a;simp at a;rcases a with rfl|rfl|rfl|rfl|rfl|rfl|rfl<;>rfl
theorem CR.down{B:Nat}{w:World}{k d lo hi:Int}{lz a:Bool}{sv:Value}{x:RX.aA}(h:CR B w [.int .i64 k,.int .i64 d,.int .i64 lo,.int .i64 hi,.bool lz,.bool a,sv] x):CR B w [.int .i64 k,.int .i64 (d+1),.int .i64 lo,.int .i64 hi,.bool lz,.bool a,sv] x.down:=by obtain⟨f,e,i⟩:=h;simp only[List.cons.injEq,Value.int.injEq,Value.bool.injEq,true_and,and_true]at e;obtain⟨rfl,rfl,rfl,rfl,rfl,rfl,rfl⟩:=e;exact⟨sv,rfl,i⟩
theorem CR.cells{B:Nat}{w:World}{cs:List Value}{x:RX.aA}(h:CR B w cs x):∃A c,cs=[.int .i64 x.kind,.int .i64 x.deep,.int .i64 x.lo,.int .i64 x.hi,.bool x.lazy,.bool x.neg,.slice A x.set.length c]:=by obtain⟨d,rfl,a⟩:=h;obtain⟨A,c,rfl,_⟩:=a;exact⟨A,c,rfl⟩
theorem CR.len{B:Nat}{w:World}{cs:List Value}{x:RX.aA}(h:CR B w cs x):cs.length=7:=by obtain⟨a,rfl,_⟩:=h;rfl
theorem xC(a:List RX.aA)(l:List RX.aA)(m:Nat)(h:m<l.length):a++(l.take (m+1)).map RX.aA.down=(a++(l.take m).map RX.aA.down)++[l[m].down]:=by rw[kE h,jS,<-lL];rfl
theorem FO(top:RX.aA)(a:List (List RX.aA))(m:Nat)(h:m<a.length):(top::((a.take m).flatten.map RX.aA.down))++a[m].map RX.aA.down=top::((a.take (m+1)).flatten.map RX.aA.down):=by rw[kE h,qK,jS,List.cons_append,Dr]
def Small(top:RX.aA)(parts:List (List RX.aA)):Prop:=(RX.under top parts).length<=100000/\∀l∈parts,∀x∈l,0<=x.deep/\x.deep<=1000
theorem Small.part{top:RX.aA}{parts:List (List RX.aA)}(h:Small top parts){m:Nat}(d:m<parts.length):(top::((parts.take m).flatten.map RX.aA.down)).length+parts[m].length<=100000:=by
 have a:=h.1;have e:parts=parts.take m++(parts[m]::parts.drop (m+1)):=by rw[<-ed d,List.take_append_drop]
 have f:parts.flatten=(parts.take m).flatten++(parts[m]++(parts.drop (m+1)).flatten):=
  (congrArg List.flatten e).trans (by rw[qK,xk]);unfold RX.under at a;rw[f]at a;simp at a⊢;omega
theorem vC(B:Nat)(w:World)(top:RX.aA)(parts:List (List RX.aA))(C:List Value)(vp:Value)(J:CR B w C top)(K:aT 99 1 (CL B) B w vp parts)(Q:Small top parts):Calls Tryz.prog 140 #[.agg C.toArray,vp] w (Du (fun w' v=>uO B w.heap.size w' v (RX.under top parts)) w):=by
 have HT:=jd J;obtain⟨At,ct,rfl⟩:=J.cells;have HP:=jd K;have R:=jd Q;obtain⟨Ap,cp,rfl,hlp,hcp⟩:=K.form;clear J Q K;go_enter Tryz.func140,Tryz.ntmps140;go_wp2_with fail;go_loopg[5,14]parts.length(fun k v i wr=>∃m:Nat,m+k=parts.length/\i=.int .i64 m/\uO B w.heap.size wr v (top::((parts.take m).flatten.map RX.aA.down))/\Ext w wr);case atStart=>
  refine⟨0,by omega,rfl,?_,((aa w).alloc _).alloc _⟩;refine jP (w:=w.alloc _) (base:=w.heap.size) (sz:=7) _ [top] _ _ (by simp) rfl (by simp) (by simp) ?_ ?_
  .rfl
  intro k x H;match k,H with
  |0,H=>simp at H;subst H;exact⟨_,dE B _ _ _ _ (au (((aa w).alloc _).alloc _)) HT.o,rfl,fun i u hu=>by simpa using hu⟩
 case round=>
  obtain⟨m,S,rfl,e,h⟩:=hrel;have L:=jd e;have T:=jd S;clear S e;have zV:m<=parts.length:=by have:=T.o;omega
  by_cases r:m<parts.length
  .obtain⟨gp,op,cs,rfl,⟨vl,rfl,s⟩,d⟩:=HP.o.at_ r;have U:=h.cell (d 0 vl rfl);rw[sU,fB]at U;have V:=R.o.part r;have X:=R.o.2 parts[m] (bK r);have M:=jd (FO top parts m r);have Y:=jd X;generalize parts[m]=l at s M Y V;generalize top::((parts.take m).flatten.map RX.aA.down)=f at L M V;obtain⟨Al,cl,rfl,hll,hcl⟩:=s.form;have HL:=jd s;have HE:=jd h;have hsz:=h.size;clear s d X h;obtain⟨Z,rfl⟩:∃Z:World,Z=wr:=⟨_,rfl⟩;go_wp2_with fail;clear U;go_loopg[5,20]l.length(fun k v i wr=>∃q:Nat,q+k=l.length/\i=.int .i64 q/\uO B w.heap.size wr v (f++(l.take q).map RX.aA.down)/\Ext w wr);case atStart=>exact⟨0,by omega,rfl,by rw[List.take_zero];simpa using L.o,HE.o⟩
   case round=>
    obtain⟨q,D,rfl,e,h⟩:=hrel;have HQ:=jd D;clear D;have Xe:q<=l.length:=by have:=HQ.o;omega
    by_cases j:q<l.length
    .obtain⟨g,o,cs,rfl,t,d⟩:=(HL.o.keep (dE B) (au h) (au h)).at_ j;have I:=jd (xC f l q j);have hd:=Y.o l[q] (bK j);generalize l[q]=x at t I hd;have E:(f++(l.take q).map RX.aA.down).length<=1000000:=by simp;omega
     generalize f++(l.take q).map RX.aA.down=acc at I e E;obtain⟨acc',z⟩:∃a,a=f++(l.take (q+1)).map RX.aA.down:=⟨_,rfl⟩;rw[<-z]at I;have N:=jd z;clear z;obtain⟨Ax,cx,rfl⟩:=t.cells;have c0:=d 0 _ rfl;have c1:=d 1 _ rfl;have c2:=d 2 _ rfl;have c3:=d 3 _ rfl;have c4:=d 4 _ rfl;have c5:=d 5 _ rfl;have c6:=d 6 _ rfl;rw[fB]at c0;obtain⟨hd0,hd1⟩:=hd;have hy:=t.down;have p:=e.gM (dE B) (au ((aa wr).alloc (.cells #[.int .i64 x.kind,.int .i64 (x.deep+1),.int .i64 x.lo,.int .i64 x.hi,.bool x.lazy,.bool x.neg,.slice Ax x.set.length cx] 126))) (au ((aa wr).alloc _));have F:=dE B _ _ _ _ (au ((aa wr).alloc (.cells #[.int .i64 x.kind,.int .i64 (x.deep+1),.int .i64 x.lo,.int .i64 x.hi,.bool x.lazy,.bool x.neg,.slice Ax x.set.length cx] 126))) hy;have G:=E;have hsz2:=h.size;have HY:=jd F;have O:=jd p;have P:=jd h;have JB:=jd e.lt;clear t d e h hy F p;go_wp2_with(at_builtin;refine CQ Tryz.underlying99 Qt rfl (by decide) (by decide) (dE B) (by decide) rfl _ _ rfl w.heap.size _ _ _ _ _ O.o HY.o rfl HY.o.one rfl _ rfl (by simp) G (by simp;omega) ?_);intro v' w' h1 h2;have sH:Ext w w':=((P.o.alloc _).alloc _).grown h2 (fun k hk=>(JB.o k hk).1);rw[<-I.o]at h1;clear h2;go_wp2_with fail;go_roundg(l.length-(q+1));case measure=>have:=HQ.o;omega
     case rel=>exact⟨q+1,by omega,by go_num,by rw[<-N.o];exact h1,sH⟩
    .have D:q=l.length:=by omega
     have A:=jd (show f++(l.take q).map RX.aA.down=top::((parts.take (m+1)).flatten.map RX.aA.down)by rw[D,xh];exact M.o);clear D;rw[A.o]at e;go_wp2_with fail;go_roundg(parts.length-(m+1));case measure=>have:=T.o;omega
     case rel=>exact⟨m+1,by omega,by go_num,e,h⟩
  .have A:=jd (show top::((parts.take m).flatten.map RX.aA.down)=RX.under top parts by rw[pU (by omega)];rfl);go_wp2_with fail;go_ret;exact⟨_,rfl,by rw[<-A.o];exact L.o,h⟩
theorem Nr(r:Int)(w:World):Calls Tryz.prog 158 #[.int .i32 r] w (lW (.int .i32 (RX.lower r)) w):=by
 go_enter Tryz.func158,Tryz.ntmps158;by_cases a:65<=r<;>by_cases d:r<=90<;>by_cases e:192<=r<;>by_cases f:r<=222<;>by_cases h:r=215;all_goals
  first
  |(exfalso;omega)
  |skip
 all_goals
  go_wp2_with fail;go_ret;refine⟨aH ?_,0,rfl⟩;simp[RX.lower,RX.within, *]<;>omega
theorem iR(r:Int)(w:World):Calls Tryz.prog 23 #[.int .i32 r] w (fun e w'=>e=.returned (.bool (RX.aQ r))/\w'=w):=by
 by_cases a:0<=r<;>by_cases d:r<=1114111<;>by_cases f:r<55296<;>by_cases h:57343<r;all_goals first|(exfalso;omega)|skip
 all_goals
  go_enter Tryz.func23,Tryz.ntmps23;go_wp2_with fail;go_ret;exact⟨aH (by simp[RX.aQ];omega),rfl⟩
theorem sJ(r:Int)(w:World):Calls Tryz.prog 45 #[.int .i32 r] w (fun e w'=>e=.returned (.bool (RX.within r 97 122||RX.within r 65 90))/\w'=w):=by
 by_cases a:97<=r<;>by_cases d:r<=122<;>by_cases f:65<=r<;>by_cases h:r<=90;all_goals first|(exfalso;omega)|skip
 all_goals
  go_enter Tryz.func45,Tryz.ntmps45;go_wp2_with fail;go_ret;exact⟨aH (by simp[RX.within];omega),rfl⟩
theorem AV(r:Int)(w:World):Calls Tryz.prog 25 #[.int .i32 r] w (fun e w'=>e=.returned (.bool (RX.within r 48 57))/\w'=w):=by
 by_cases a:48<=r<;>by_cases d:r<=57;all_goals first|(exfalso;omega)|skip
 all_goals
  go_enter Tryz.func25,Tryz.ntmps25;go_wp2_with fail;go_ret;exact⟨aH (by simp[RX.within];omega),rfl⟩
theorem Lc(r:Int)(w:World):Calls Tryz.prog 159 #[.int .i32 r] w (fun e w'=>e=.returned (.int .i64 (RX.bE r))/\w'=w):=by
 rcases i:RX.aQ r with _|_;focus
  have p:=jd i;have d:=jd (show RX.bE r=0 by unfold RX.bE;rw[av i]);clear i;go_enter Tryz.func159,Tryz.ntmps159;go_wp2_with(go_at_call 23;refine(iR r _).mono ?_;rw[p.o];rintro e k⟨rfl,rfl⟩)
 rotate_left;focus
  have p:=jd i;by_cases u:r=32;focus
   subst u;have d:=jd (show RX.bE 32=1 by decide);clear i;go_enter Tryz.func159,Tryz.ntmps159;go_wp2_with(go_at_call 23;refine(iR 32 _).mono ?_;rw[p.o];rintro e k⟨rfl,rfl⟩)
  rotate_left;focus
   by_cases F:r=9;focus
    subst F;have d:=jd (show RX.bE 9=1 by decide);clear i;go_enter Tryz.func159,Tryz.ntmps159;go_wp2_with(go_at_call 23;refine(iR 9 _).mono ?_;rw[p.o];rintro e k⟨rfl,rfl⟩)
   rotate_left;focus
    by_cases s:r=10;focus
     subst s;have d:=jd (show RX.bE 10=2 by decide);clear i;go_enter Tryz.func159,Tryz.ntmps159;go_wp2_with(go_at_call 23;refine(iR 10 _).mono ?_;rw[p.o];rintro e k⟨rfl,rfl⟩)
    rotate_left;focus
     have H:(r==32)=false:=by simpa using u
     have L:(r==9)=false:=by simpa using F
     have I:(r==10)=false:=by simpa using s
     have a:RX.bE r=if r=215\/r=247 then 4 else if(97<=r/\r<=122)\/(65<=r/\r<=90)\/(48<=r/\r<=57)\/r=95\/(192<=r/\r<=255)then 3 else 4:=by unfold RX.bE;rw[ae (by rw[i];decide),ae (by omega),ae s];simp only[within_iff]
     clear i;by_cases f:(97<=r/\r<=122)\/(65<=r/\r<=90);focus
      have B:=jd (show(RX.within r 97 122||RX.within r 65 90)=true by simp only[Bool.or_eq_true,within_iff];exact f);have d:=jd (show RX.bE r=3 by rw[a,ae (by omega),av (by omega)]);clear a f;go_enter Tryz.func159,Tryz.ntmps159;go_wp2_with(first|(go_at_call 23;refine(iR r _).mono ?_;rw[p.o];rintro e k⟨rfl,rfl⟩)|(go_at_call 45;refine(sJ r _).mono ?_;rw[B.o];rintro e k⟨rfl,rfl⟩))
     rotate_left;focus
      have B:=jd (show(RX.within r 97 122||RX.within r 65 90)=false from Bool.eq_false_iff.2 (fun h=>f (by simpa only[Bool.or_eq_true,within_iff]using h)));by_cases j:48<=r/\r<=57;focus
       have G:=jd (show RX.within r 48 57=true by rw[within_iff];exact j);have d:=jd (show RX.bE r=3 by rw[a,ae (by omega),av (by omega)]);clear a f j
      rotate_left;focus
       have G:=jd (show RX.within r 48 57=false by rw[Bool.eq_false_iff,ne_eq,within_iff];exact j);by_cases m:r=95;focus
        have d:=jd (show RX.bE r=3 by rw[a,ae (by omega),av (by omega)]);have C:(r==95)=true:=by simpa using m
        clear a f j m
       rotate_left;focus
        have C:(r==95)=false:=by simpa using m
        by_cases v:192<=r;rotate_left;focus
         have d:=jd (show RX.bE r=4 by rw[a];split;rfl;rw[ae (by omega)]);have J:decide ((192:Int)<=r)=false:=bR v;clear a f j m
        rotate_left;focus
         have J:decide ((192:Int)<=r)=true:=bJ v;by_cases z:r<=255;rotate_left;focus
          have d:=jd (show RX.bE r=4 by rw[a];split;rfl;rw[ae (by omega)]);have K:decide (r<=255)=false:=bR z;clear a f j m
         rotate_left;focus
          have K:decide (r<=255)=true:=bJ z;by_cases t:r=215;focus
           have d:=jd (show RX.bE r=4 by rw[a,av (.inl t)]);have D:(r !=215)=false:=by simpa using t
           clear a f j m t
          rotate_left;focus
           have D:(r !=215)=true:=by simpa using t
           by_cases A:r=247;focus
            have d:=jd (show RX.bE r=4 by rw[a,av (.inr A)]);have E:(r !=247)=false:=by simpa using A
            clear a f j m t A
           rotate_left;focus
            have E:(r !=247)=true:=by simpa using A
            have d:=jd (show RX.bE r=3 by rw[a,ae (by omega),av (by omega)]);clear a f j m t A
      all_goals
       go_enter Tryz.func159,Tryz.ntmps159;go_wp2_with(first|(go_at_call 23;refine(iR r _).mono ?_;rw[p.o];rintro e k⟨rfl,rfl⟩)|(go_at_call 45;refine(sJ r _).mono ?_;rw[B.o];rintro e k⟨rfl,rfl⟩)|(go_at_call 25;refine(AV r _).mono ?_;rw[G.o];rintro e k⟨rfl,rfl⟩));go_ret;exact⟨aH (by rw[d.o];rfl),rfl⟩
 all_goals
  go_ret;exact⟨aH (by rw[d.o];rfl),rfl⟩
end Go.Proofs.YtcogknbbbjnaiaaGreatDoor
