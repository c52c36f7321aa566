/- For ShowTells: what the texts XPar XTap XKn8 of wip/tpl say. -/
import Derived.Test.YtcogknbbbjnaiaaGreatDoorN
import Derived.RegionTactic
set_option maxRecDepth 100000
set_option maxHeartbeats 4000000
namespace Go.Proofs.YtcogknbbbjnaiaaGreatDoor
open Go.RowKit
theorem KJ(c:Int)(w:World):Calls Tryz.prog 119 #[.int .i32 c] w (lW (.bool (RX.bE c==0)) w):=by go_enter Tryz.func119,Tryz.ntmps119;go_wp2_with fail;refine(GR _ _).mono ?_;rintro e a⟨rfl,n,rfl⟩;go_wp2_with fail;go_ret;exact⟨rfl,_,rfl⟩
def nY(s:List Int):Int:=match s.findIdx? (fun c=>RX.bE c==0)with|some i=>i|none=>-1
theorem IU{s:List Int}(h:∀x∈s,(RX.bE x==0)=false):nY s=-1:=by unfold nY;rw[List.findIdx?_eq_none_iff.2 (by intro x a;simpa using h x a)]
theorem Ns{s:List Int}{k:Nat}(d:k<s.length)(h:∀j(a:j<k),(RX.bE (s[j]'(by omega))==0)=false)(e:(RX.bE s[k]==0)=true):nY s=k:=by unfold nY;rw[List.findIdx?_eq_some_iff_getElem.2 ⟨d,e,fun j a=>by rw[h j a];decide⟩]
theorem RD(s:List Int)(v:Value)(w:World)(p:ib w v s)(_hl:s.length<=1000000):Calls Tryz.prog 100 #[v,.func (.func 119) #[] #[]] w (lW (.int .i64 (nY s)) w):=by
 obtain⟨A,c,rfl,z,B,_⟩:=id p;have C:=jd p;clear p;go_enter Tryz.func100,Tryz.ntmps100;go_wp2_with fail;go_loopw[8](fun i wr=>∃k n:Nat,k<=s.length/\i=.int .i64 k/\wr=w.drewN n/\∀x∈s.take k,(RX.bE x==0)=false)(fun i _=>s.length-(intOf i).toNat);case atStart=>exact⟨0,0,aL _,rfl,rfl,by simp⟩
 case round=>
  obtain⟨k,n,H,rfl,rfl,a⟩:=hrel;have r:=jd a;clear a;by_cases d:k<s.length
  .obtain⟨b,o,rfl,D⟩:=C.o.at_ d;obtain⟨x,h⟩:∃x,s[k]=x:=⟨_,rfl⟩;rw[h]at D;have t:=jd h;clear h;rcases u:(RX.bE x==0)with _|_
   .go_wp2_with(go_at_call 119;refine(KJ _ _).mono ?_;rintro e E⟨rfl,F,rfl⟩);go_roundw;case rel=>
     refine⟨k+1,_,by omega,by go_num,rfl,fun y f=>?_⟩;rw[kE d]at f;rcases iN.1 f with f|f
     .exact r.o y f
     .simp at f;subst f;rw[t.o];exact u
    case measure=>simp[intOf];omega
   .go_wp2_with(go_at_call 119;refine(KJ _ _).mono ?_;rintro e E⟨rfl,F,rfl⟩);go_ret;refine⟨aH ?_,_,rfl⟩;rw[Ns d (fun j I=>r.o _ (List.mem_take_iff_getElem.2 ⟨j,by omega,rfl⟩)) (by rw[t.o];exact u)];rfl
  .have m:k=s.length:=by omega
   have G:=jd m;clear m;go_wp2_with fail;go_ret;refine⟨aH ?_,_,rfl⟩;rw[IU (by intro x h;exact r.o x (by rw[G.o,xh];exact h))];rfl
structure wP(w:World)(nb:Nat)(s:List Int)(sv:Value)(st:RX.St)(vl:Value)(l:List RX.aA)(wr:World):Prop where
 env:Env (w.alloc (.cells #[.int .i64 0,.int .i64 0] 31)) (nb+1) sv s wr st
 ext:Ext w wr
 box:wr.heap[nb]?=some (.cells #[.int .i64 0,.int .i64 0] 31 (0,0))
 val:dI (nb+2) (nb+2) wr vl l
 CZ:nb=w.heap.size
section
variable{w wr w':World}{nb:Nat}{s:List Int}{sv vl II:Value}{st st':RX.St}{l l':List RX.aA}
theorem wP.step(h:wP w nb s sv st vl l wr)(d:Env (w.alloc (.cells #[.int .i64 0,.int .i64 0] 31)) (nb+1) sv s w' st')(a:Only wr w' (nb+1)):wP w nb s sv st' vl l w':=⟨d,h.ext.only a (by have:=h.CZ;omega),(a.block nb (ag h.box) (by intro e;injection e with e;omega)).trans h.box,aT.only h.val (jQ _) a,h.CZ⟩
theorem wP.drewN{n:Nat}(h:wP w nb s sv st vl l wr):wP w nb s sv st vl l (wr.drewN n):=h.step (h.env.drewN n) ((aJ _ _).drewN n)
theorem wP.call(h:wP w nb s sv st vl l wr)(d:RS (nb+1) sv w' st')(a:Only wr w' (nb+1)):wP w nb s sv st' vl l w':=h.step (h.env.step a d) a
theorem wP.JS(h:wP w nb s sv st vl l wr)(a:dI (nb+2) (nb+2) wr II l'):wP w nb s sv st II l' wr:=⟨h.env,h.ext,h.box,a,h.CZ⟩
theorem dI.weak{B a:Nat}(h:dI B B w vl l)(d:a<=B):dI a a w vl l:=jq (aT.imp h fun _ _⟨sv,e,f⟩=>⟨sv,e,f.weaken d⟩) d
abbrev jV:=@dI.weak
theorem wP.done{n:Nat}{x y:Value}(h:wP w nb s sv st vl l wr):dI w.heap.size w.heap.size (((wr.drewN n).setCell ⟨nb,0,none⟩ x).setCell ⟨nb,1,none⟩ y) vl l/\Ext w (((wr.drewN n).setCell ⟨nb,0,none⟩ x).setCell ⟨nb,1,none⟩ y):=by have d:=h.CZ;have a:Only wr (((wr.drewN n).setCell ⟨nb,0,none⟩ x).setCell ⟨nb,1,none⟩ y) nb:=(((aJ _ _).drewN n).set _).set _;exact⟨jV (aT.dW h.val (jQ _) (kD a (by omega))) (by omega),h.ext.only a (by omega)⟩
def UN(s:List Int)(w:World):Ending->World->Prop:=abo (fun w' a b=>dI w.heap.size w.heap.size w' a (RX.parse s).1/\b=.agg #[.int .i64 (RX.parse s).2.1,.int .i64 (RX.parse s).2.2]) w
theorem GQ(s:List Int)(v:Value)(w:World)(m:ib w v s):Calls Tryz.prog 103 #[v] w (UN s w):=by
 obtain⟨A,c,rfl,T,U,_⟩:=id m;by_cases f:60<s.length
 .have u:=jd (show RX.parse s=([],3,60)by unfold RX.parse;rw[av f]);have z:decide ((60:Int)<s.length)=true:=by simp;omega
  clear m;go_enter Tryz.func103,Tryz.ntmps103;go_wp2_with fail;refine bC (v:=.tuple #[.slice none 0 0,.agg #[.int .i64 3,.int .i64 60]]) (by simp[results,Tryz.results103,go_sem]) rfl ?_;exact⟨_,_,rfl,by rw[u.o];exact⟨aS,rfl⟩,(aa w).alloc _⟩
 have z:decide ((60:Int)<s.length)=false:=by simp;omega
 have V:s.length<=60:=by omega
 have D:=jd (fun w'(h:Ext w w')=>RD s _ w' (m.ext h) (by omega));rcases B:s.findIdx? (fun c=>RX.bE c==0)with _|i
 .have E:nY s=-1:=by unfold nY;rw[B]
  rw[E]at D;have X:=jd B;clear E B;go_enter Tryz.func103,Tryz.ntmps103;go_wp2_with(go_at_call 100;refine(D.o _ ((aa w).alloc _)).mono ?_;rintro e w'⟨rfl,n,rfl⟩);have mD:=jd (rfl:w.heap.size=w.heap.size);obtain⟨nb,j⟩:∃nb,nb=w.heap.size:=⟨_,rfl⟩;have t:wP w nb s (.slice A s.length c) ⟨0,0,0,0,0⟩ (.slice none 0 0) [] (((w.alloc (.cells #[.int .i64 0,.int .i64 0] 31)).drewN n).alloc (.cells #[.slice A s.length c,.int .i64 0,.int .i64 0,.int .i64 0,.int .i64 0,.int .i64 0] 158)):=
   ⟨⟨m.ext ((aa w).alloc _),by simp;omega,V,((aa _).drewN n).alloc _,by have:=aB ((w.alloc (.cells #[.int .i64 0,.int .i64 0] 31)).drewN n) (.cells #[.slice A s.length c,.int .i64 0,.int .i64 0,.int .i64 0,.int .i64 0,.int .i64 0] 158);rw[show nb+1=((w.alloc (.cells #[.int .i64 0,.int .i64 0] 31)).drewN n).heap.size by simp;omega];exact this⟩,(((aa w).alloc _).drewN n).alloc _,(((aa _).drewN n).alloc _).heap (j▸aB w _),aS,j⟩;have d:=jd t;have K:=RX.rH s 12 ⟨0,0,0,0,0⟩ rfl (aL _) (by decide);have L:∀F,Env (w.alloc (.cells #[.int .i64 0,.int .i64 0] 31)) (nb+1) (.slice A s.length c) s F ⟨0,0,0,0,0⟩->Calls Tryz.prog 121 #[.pointer (some ⟨nb+1,0,none⟩)] F (mH (fun w' v=>dI (nb+2) (nb+2) w' v (RX.gV s 12 ⟨0,0,0,0,0⟩).1) (nb+1) (.slice A s.length c) F (RX.gV s 12 ⟨0,0,0,0,0⟩).2 (s.length+30)):=
   fun F Y=>Tw s 12 0 rfl F _ Y rfl (aL _) (by decide) rfl;have u:RX.parse s=(if(if(RX.gV s 12 ⟨0,0,0,0,0⟩).2.ok=true/\(RX.gV s 12 ⟨0,0,0,0,0⟩).2.at_<s.length then(RX.gV s 12 ⟨0,0,0,0,0⟩).2.fail 5 (RX.gV s 12 ⟨0,0,0,0,0⟩).2.at_ else(RX.gV s 12 ⟨0,0,0,0,0⟩).2).ok=true then((RX.gV s 12 ⟨0,0,0,0,0⟩).1,0,0)else([],(if(RX.gV s 12 ⟨0,0,0,0,0⟩).2.ok=true/\(RX.gV s 12 ⟨0,0,0,0,0⟩).2.at_<s.length then(RX.gV s 12 ⟨0,0,0,0,0⟩).2.fail 5 (RX.gV s 12 ⟨0,0,0,0,0⟩).2.at_ else(RX.gV s 12 ⟨0,0,0,0,0⟩).2).code,(if(RX.gV s 12 ⟨0,0,0,0,0⟩).2.ok=true/\(RX.gV s 12 ⟨0,0,0,0,0⟩).2.at_<s.length then(RX.gV s 12 ⟨0,0,0,0,0⟩).2.fail 5 (RX.gV s 12 ⟨0,0,0,0,0⟩).2.at_ else(RX.gV s 12 ⟨0,0,0,0,0⟩).2).gL)):=by unfold RX.parse;rw[ae f,X.o]
  generalize RX.gV s 12 ⟨0,0,0,0,0⟩=r at K L u;have Z:r.2.at_<=s.length+14:=K.1.hi;have HA:=jd L;have M:=jd u;have HW:=jd j;rw[<-j];clear t K L u j m D;generalize World.alloc _ _=wb at d⊢;have a:=d.o.env.rs;have c1:=a.c1;have c4:=a.c4;have c5:=a.c5;have f1:=a.fr 1;clear a;have hq:=(HA.o _ d.o.env);refine hq.mono ?_;rintro e w'⟨v,rfl,m,G,H,C⟩;have d:=jd (wP.call (by(focus(repeat(first|exact d.o|apply wP.drewN)))) G H);have a:=d.o.env.rs;have c1:=a.c1;have c4:=a.c4;have c5:=a.c5;have f1:=a.fr 1;clear a;clear G H C;obtain⟨N,O,rfl,_⟩:=m.form;have HV:=jd m;clear m;have d:=jd (wP.JS d.o HV.o);go_upto_region 8 with fail;go_cut[32](fun P Q=>∃b,P=.bool b/\b=(r.2.ok&&decide (r.2.at_<s.length))/\wP w nb s (.slice A s.length c) r.2 (.slice N r.1.length O) r.1 Q);case first=>
   rcases p:r.2.ok with _|_;rotate_left;rotate_left;all_goals
    go_wp2_with(first|(go_at_call 122;apply aM;apply fF (w0:=w.alloc (.cells #[.int .i64 0,.int .i64 0] 31)) (rb:=nb+1) (sv:=.slice A s.length c) (s:=s);(apply wP.env;(focus(repeat(first|exact d.o|apply wP.drewN))));rintro e w'⟨rfl,n,rfl⟩));go_meet;exact⟨_,rfl,by rw[p];rfl,by(focus(repeat(first|exact d.o|apply wP.drewN)))⟩
  case rest=>
   obtain⟨b,rfl,C,I⟩:=hcut;have d:=jd I;have S:=jd C;clear C I c1 c4 c5 f1;have a:=d.o.env.rs;have c1:=a.c1;have c4:=a.c4;have c5:=a.c5;have f1:=a.fr 1;clear a;go_upto_if 32 with fail;go_cut[](fun Q=>wP w nb s (.slice A s.length c) (if r.2.ok=true/\r.2.at_<s.length then r.2.fail 5 r.2.at_ else r.2) (.slice N r.1.length O) r.1 Q);case first=>
    rcases b with _|_
    .have R:=jd (show¬(r.2.ok=true/\r.2.at_<s.length)by have:=S.o;intro h;rw[h.1,bJ h.2]at this;cases this);go_wp2_with fail;go_meet;rw[ae R.o];(focus(repeat(first|exact d.o|apply wP.drewN)))
    .have R:=jd (show r.2.ok=true/\r.2.at_<s.length by have:=S.o.symm;simp only[jR,jf]at this;exact this);go_wp2_with(first|(go_at_call 123;apply aM;apply gW (w0:=w.alloc (.cells #[.int .i64 0,.int .i64 0] 31)) (rb:=nb+1) (sv:=.slice A s.length c) (s:=s);(apply wP.env;(focus(repeat(first|exact d.o|apply wP.drewN))));rintro e w'⟨rfl,G,H,C⟩;have d:=jd (wP.call (by(focus(repeat(first|exact d.o|apply wP.drewN)))) G H);have a:=d.o.env.rs;have c1:=a.c1;have c4:=a.c4;have c5:=a.c5;have f1:=a.fr 1;clear a;clear G H C));go_meet;rw[av R.o];(focus(repeat(first|exact d.o|apply wP.drewN)))
   case rest=>
    generalize(if r.2.ok=true/\r.2.at_<s.length then r.2.fail 5 r.2.at_ else r.2)=k at hcut M;have d:=jd hcut;clear hcut c1 c4 c5 f1;have a:=d.o.env.rs;have c1:=a.c1;have c4:=a.c4;have c5:=a.c5;have f1:=a.fr 1;clear a;obtain⟨b0,b1,g0,g1⟩:=PW d.o.box;rcases p:k.ok with _|_
    .go_wp2_with(first|(go_at_call 122;apply aM;apply fF (w0:=w.alloc (.cells #[.int .i64 0,.int .i64 0] 31)) (rb:=nb+1) (sv:=.slice A s.length c) (s:=s);(apply wP.env;(focus(repeat(first|exact d.o|apply wP.drewN))));rintro e w'⟨rfl,n,rfl⟩));go_region;all_goals go_wp2_with fail
     all_goals refine bC (v:=.tuple #[.slice none 0 0,.agg #[.int .i64 k.code,.int .i64 k.gL]]) (by simp[results,Tryz.results103,go_sem, *]) rfl ?_
     all_goals
      have J:=M.o;rw[p,ae (by decide)]at J;have z:=d.o.done (n:=n+1) (x:=.int .i64 k.code) (y:=.int .i64 k.gL);exact⟨_,_,rfl,by rw[J];exact⟨aS,rfl⟩,z.2⟩
    .go_wp2_with(first|(go_at_call 122;apply aM;apply fF (w0:=w.alloc (.cells #[.int .i64 0,.int .i64 0] 31)) (rb:=nb+1) (sv:=.slice A s.length c) (s:=s);(apply wP.env;(focus(repeat(first|exact d.o|apply wP.drewN))));rintro e w'⟨rfl,n,rfl⟩));refine bC (v:=.tuple #[.slice N r.1.length O,.agg #[.int .i64 0,.int .i64 0]]) (by simp[results,Tryz.results103,go_sem,b0,b1]) rfl ?_;have J:=M.o;rw[p,av rfl]at J;have z:=d.o.done (n:=n) (x:=.int .i64 0) (y:=.int .i64 0);exact⟨_,_,rfl,by rw[J];exact⟨z.1,rfl⟩,z.2⟩
 .have E:nY s=i:=by unfold nY;rw[B]
  rw[E]at D;have u:=jd (show RX.parse s=([],1,(i:Int))by unfold RX.parse;rw[ae f,B]);clear E B m;go_enter Tryz.func103,Tryz.ntmps103;go_wp2_with(go_at_call 100;refine(D.o _ ((aa w).alloc _)).mono ?_;rintro e w'⟨rfl,n,rfl⟩);refine bC (v:=.tuple #[.slice none 0 0,.agg #[.int .i64 1,.int .i64 i]]) (by simp[results,Tryz.results103,go_sem]) rfl ?_;exact⟨_,_,rfl,by rw[u.o];exact⟨aS,rfl⟩,((((aa w).alloc _).drewN n).set (by simp) _).set (by simp) _⟩
end
abbrev Bw:=@wpList_append_own_none
def TS(tb:Nat)(sv:Value)(w:World)(i:Nat):Prop:=w.heap[tb]?=some (.cells #[sv,.int .i64 i] 36 (0,0))
structure rG(w0:World)(tb:Nat)(sv:Value)(ts:List Int)(w:World)(i:Nat):Prop where
 sl:YX w0 sv ts
 lo:w0.heap.size<=tb
 ext:Ext w0 w
 st:TS tb sv w i
 le:i<=ts.length
section
variable{w0:World}{tb:Nat}{sv:Value}{ts:List Int}{w wr w':World}{i j:Nat}
theorem rG.step(h:rG w0 tb sv ts w i)(a:Only w w' tb)(d:TS tb sv w' j)(e:j<=ts.length):rG w0 tb sv ts w' j:=⟨h.sl,h.lo,h.ext.only a h.lo,d,e⟩
theorem rG.drewN{n:Nat}(h:rG w0 tb sv ts w i):rG w0 tb sv ts (w.drewN n) i:=⟨h.sl,h.lo,h.ext.drewN n,h.st,h.le⟩
theorem rG.alloc{o:Obj}(h:rG w0 tb sv ts w i):rG w0 tb sv ts (w.alloc o) i:=⟨h.sl,h.lo,h.ext.alloc o,((aa w).alloc o).heap h.st,h.le⟩
theorem rG.tbl(h:rG w0 tb sv ts w i):tb<w.heap.size:=ag h.st
theorem rG.c0(h:rG w0 tb sv ts w i):w.cell? ⟨tb,0,none⟩=some sv:=cy 0 h.st
theorem rG.c1(h:rG w0 tb sv ts w i):w.cell? ⟨tb,1,none⟩=some (.int .i64 i):=cy 1 h.st
theorem rG.fr(h:rG w0 tb sv ts w i)(o:Nat):w.frozen? ⟨tb,o,none⟩=false:=fq o h.st
theorem YW(n:Int):bits .and .i64 n 16777215=n%16777216:=by
 have a:(BitVec.ofInt 64 16777215).toNat=2^24-1:=by decide
 have d:(BitVec.ofInt 64 n&&&BitVec.ofInt 64 16777215).toNat=(n%((2^64:Nat):Int)).toNat%2^24:=by rw[BitVec.toNat_and,BitVec.toNat_ofInt,a,Nat.and_two_pow_sub_one_eq_mod]
 show IntKind.i64.wrap ((BitVec.ofInt 64 n&&&BitVec.ofInt 64 16777215).toNat:Nat)=n%16777216;rw[d,IntKind.wrap_i64];omega
def PS(v:Value)(tb:Nat)(sv:Value)(w:World)(j:Nat)(e:Ending)(w':World):Prop:=e=.returned v/\TS tb sv w' j/\Only w w' tb
def si(R:World->Value->Prop)(tb:Nat)(sv:Value)(w:World)(j:Nat)(e:Ending)(w':World):Prop:=∃v,e=.returned v/\R w' v/\TS tb sv w' j/\Only w w' tb
theorem WK{x n:Int}(d:1<=n):(x%16777216).tmod n=(((x%16777216).toNat%n.toNat:Nat):Int):=by
 have a:0<=x%16777216:=by omega
 rw[Int.tmod_eq_emod_of_nonneg a,Int.natCast_emod,Int.toNat_of_nonneg a,Int.toNat_of_nonneg (by omega)]
theorem rf(k:Int)(w:World)(i:Nat)(a:rG w0 tb sv ts w i)(r:1<=k/\k<=1000000):Calls Tryz.prog 32 #[.pointer (some ⟨tb,0,none⟩),.int .i64 k] w (PS (.int .i64 ((TP.next ts i k.toNat).1:Nat)) tb sv w (TP.next ts i k.toNat).2):=by
 have c0:=a.c0;have c1:=a.c1;have f1:=a.fr 1;have d:=a.sl.ext a.ext;have p:=jd a;obtain⟨A,c,rfl,s,t,_⟩:=id d;obtain⟨f,u⟩:=r;have v:decide (k<1)=false:=by simp;omega
 by_cases h:i<ts.length
 .obtain⟨b,o,rfl,z⟩:=d.at_ h;have e:=jd (show TP.next ts i k.toNat=((ts[i]%16777216).toNat%k.toNat,i+1)by unfold TP.next;rw[aU h]);generalize ts[i]=x at z e;have m:decide ((ts.length:Int)<=i)=false:=by simp;omega
  clear a d;go_enter Tryz.func32,Tryz.ntmps32;go_wp2_with fail;go_quiet(fail);go_wp2_with fail;go_quiet(fail);go_wp2_with fail;go_ret;rw[e.o];refine⟨?_,aP (p.o.drewN).st,((aJ _ _).drewN _).set _⟩;show Ending.returned (.int .i64 ((bits .and .i64 x 16777215).tmod k))=_;rw[YW,WK f]
 .have e:=jd (show TP.next ts i k.toNat=(0,i)by unfold TP.next;rw[gD (by omega)]);have m:decide ((ts.length:Int)<=i)=true:=by simp;omega
  clear a d;go_enter Tryz.func32,Tryz.ntmps32;go_wp2_with fail;go_quiet(fail);go_wp2_with fail;go_ret;rw[e.o];exact⟨rfl,p.o.st,(aJ _ _).drewN _⟩
end
theorem aT.none_{α:Type}{t sz:Nat}{C:World->List Value->α->Prop}{b:Nat}{w:World}{n c:Nat}{xs:List α}(h:aT t sz C b w (.slice none n c) xs):xs=[]/\n=0/\c=0:=by
 obtain⟨A,i,a,j,_,d,_⟩:=h;injection a with e k m;have p:=d e.symm;have f:xs.length=0:=by omega
 exact⟨Bv f,by omega,by omega⟩
theorem iG{w:World}{f:Array Oper}{rest:List Oper}{o:Oper}{a:Act}{Q:Exit->Act->World->Prop}(i:o.guard=none)(s x:Operand)(z:o.op=.call {callee:=.builtin .append,args:=#[s,x],argTypes:=#[24,24]})(B b:Nat)(v j:Value)(xs ys:List Int)(d:ay 21 1 Cc B w v xs)(C:a.eval s=v)(D:a.eval x=j)(e:aT 21 1 Cc b w j ys)(N:xs.length<=1000000)(G:ys.length<=1000000)(H:B<=w.heap.size)(h:∀k w',ay 21 1 Cc B w' k (xs++ys)->w.grownBy w' v.ownBlock->wpList Tryz.prog f Q rest (a.put o.dst k) w'):wpList Tryz.prog f Q (o::rest) a w:=by
 obtain⟨E,hi,m,p,r⟩:=fD gQ;obtain⟨A,c,rfl,O,R⟩:=e.form;cases A with
 |none=>obtain⟨I,J,t⟩:=aT.none_ e;subst I t;refine Bw i s x 24 z B 21 E 1 eT hi v xs.length (xs.map (Value.int .i32)) C d.dM D ?_;exact h v w (by rw[iU];exact d) (sV _ _)
 |some K=>
  refine wpList_append_own (P:=Tryz.prog) (w:=w) i s x _ z B 21 E (.int .i32 0) 1 4 eT hi m p r rfl (by decide) v xs.length _ C d.dM K ys.length c (ys.map (Value.int .i32)) D (by simp) ?_ ?_ (by unfold maxLen;omega) (by omega) H ?_
  .exact eG (aT.add e)
  .intro u F;simp at F;obtain⟨y,_,rfl⟩:=F;rfl
  .intro k w' L M _;refine h k w' (mI ?_) M;rw[jS,ai];exact L
theorem Te{w:World}{nb:Nat}{a:Int}{t:TypeId}(e:nb=w.heap.size):∀j y,[a][j]?=some y->(w.alloc (.cells #[.int .i32 a] t)).cell? ((⟨nb,0,none⟩:Addr).add j)=some (.int .i32 y):=by
 subst e;intro j y d;refine jB w [.int .i32 a] t j _ ?_;match j,d with
 |0,d=>simp at d;subst d;rfl
abbrev jE:=@Te
theorem ry(x:UInt8):wrap32 (x.toNat:Int)=x.toNat:=by have:=UInt8.toNat_lt x;unfold wrap32;omega
def signs(b:ByteArray):List Int:=b.data.toList.map fun x=>(x.toNat:Int)
theorem Tf(b:ByteArray):(signs b).length=b.size:=by simp[signs]
abbrev lN:=@Tf
theorem EJ{b:ByteArray}{k:Nat}(h:k<b.size):(signs b).take (k+1)=(signs b).take k++[(b[k].toNat:Int)]:=by
 have a:k<(signs b).length:=by rw[lN];exact h
 rw[kE a];congr 1;simp[signs];rfl
theorem GJ(s:ByteArray)(w:World)(K:s.size<=1000000):Calls Tryz.prog 22 #[.string s] w (Du (fun w' v=>ay 21 1 Cc w.heap.size w' v (signs s)) w):=by
 go_enter Tryz.func22,Tryz.ntmps22;go_wp2_with fail;go_loopw[3,4](fun v i wr=>∃k:Nat,k<=s.size/\i=.int .i64 k/\ay 21 1 Cc w.heap.size wr v ((signs s).take k)/\Ext w wr)(fun _ i _=>s.size-(intOf i).toNat);case atStart=>exact⟨0,aL _,rfl,dO,aa w⟩
 case round=>
  obtain⟨k,t,rfl,hown,h⟩:=hrel;have a:=jd hown;have u:=jd h;have z:=jd hown.lt;obtain⟨A,c,rfl,j,E⟩:=hown.form;have d:((signs s).take k).length<=1000000:=by rw[kg,lN];omega
  have F:=h.size;by_cases m:k<s.size
  .have e:=jd (EJ m);have G:=jd (ry s[k]);generalize(signs s).take k=H at a z e d j⊢;obtain⟨I,p⟩:∃l,l=(signs s).take (k+1):=⟨_,rfl⟩;rw[<-p]at e;have J:=jd p;clear hown h p;have r:w.heap.size<=(wr.alloc (.cells #[.int .i32 (wrap32 (s[k].toNat:Int))] 21)).heap.size:=by simp;omega
   go_wp2_with(at_builtin;refine pI rfl _ _ rfl w.heap.size _ H [wrap32 (s[k].toNat:Int)] ?hown rfl ⟨wr.heap.size,0,none⟩ 1 1 rfl rfl ?hc ?hn ?hll ?hB ?_;(case hown=>exact a.o.jC);(case hc=>exact jE rfl);(case hn=>omega);(case hll=>(show 1<=1000;decide));(case hB=>exact r);intro L w' B C;have D:=jd (And.intro B ((u.o.alloc _).grown C (fun k t=>(z.o k t).1)));clear B C);go_roundw;case rel=>exact⟨k+1,by omega,by go_num,by rw[<-J.o,e.o,<-G.o];exact D.o.1,D.o.2⟩
   case measure=>simp[intOf];omega
  .have f:k=s.size:=by omega
   have e:=jd (show(signs s).take k=signs s by rw[f,<-lN,xh]);clear hown h f;go_wp2_with fail;go_ret;exact⟨_,rfl,by have:=a.o;rw[e.o]at this⊢;exact this,u.o⟩
theorem KA(l:List RX.aA){k:Nat}(h:k<l.length):RX.groups (l.take (k+1))=RX.groups (l.take k)+(if l[k].kind=5/\0<l[k].lo then 1 else 0):=by
 unfold RX.groups;rw[kE h,List.filter_append,ai];congr 1;by_cases a:l[k].kind=5/\0<l[k].lo
 .rw[av a];simp[a.1,a.2]
 .rw[ae a];have:(decide (l[k].kind=5)&&decide (0<l[k].lo))=false:=by
   rcases d:(decide (l[k].kind=5)&&decide (0<l[k].lo))with _|_
   .rfl
   .exact absurd (by simpa using d) a
  simp[this]
theorem Nk(l:List RX.aA)(B:Nat)(v:Value)(w:World)(z:dI B B w v l)(_hl:l.length<=1000000):Calls Tryz.prog 104 #[v] w (qL (.int .i64 (RX.groups l:Nat)) w):=by
 obtain⟨A,c,rfl,F,G⟩:=z.form;have H:=jd z;clear z;go_enter Tryz.func104,Tryz.ntmps104;go_wp2_with fail;go_loopw[3,8](fun n i wr=>∃k:Nat,k<=l.length/\i=.int .i64 k/\n=.int .i64 (RX.groups (l.take k):Nat)/\RX.groups (l.take k)<=k/\Ext w wr)(fun _ i _=>l.length-(intOf i).toNat);case atStart=>exact⟨0,aL _,rfl,rfl,az _,aa w⟩
 case round=>
  obtain⟨k,K,rfl,rfl,I,p⟩:=hrel;have u:=jd p;by_cases r:k<l.length
  .obtain⟨g,o,L,rfl,e,a⟩:=(H.o.keep (dE B) (au p) (au p)).at_ r;have j:=jd (KA l r);generalize l[k]=x at e j;obtain⟨s,f⟩:∃s,RX.groups (l.take (k+1))=s:=⟨_,rfl⟩;rw[f]at j;have m:=jd f;clear f;generalize RX.groups (l.take k)=C at j I⊢;obtain⟨Ax,M,rfl⟩:=e.cells;have c0:=a 0 _ rfl;have c1:=a 1 _ rfl;have c2:=a 2 _ rfl;have c3:=a 3 _ rfl;have c4:=a 4 _ rfl;have c5:=a 5 _ rfl;have N:=a 6 _ rfl;rw[fB]at c0;clear a e p;rcases D:(x.kind==5)with _|_
   .have d:=jd (show s=C by rw[j.o,ae (fun h=>uj.1 D h.1)];rfl);go_wp2_with fail;go_roundw;case rel=>exact⟨k+1,by omega,by go_num,by rw[m.o,d.o],by rw[m.o,d.o];omega,u.o.alloc _⟩
    case measure=>simp[intOf];omega
   .rcases E:decide (0<x.lo)with _|_
    .have d:=jd (show s=C by rw[j.o,ae (fun h=>of_decide_eq_false E h.2)];rfl);go_wp2_with fail;go_roundw;case rel=>exact⟨k+1,by omega,by go_num,by rw[m.o,d.o],by rw[m.o,d.o];omega,u.o.alloc _⟩
     case measure=>simp[intOf];omega
    .have d:=jd (show s=C+1 by rw[j.o,av ⟨nM.1 D,uz E⟩]);go_wp2_with fail;go_roundw;case rel=>exact⟨k+1,by omega,by go_num,by rw[m.o,d.o];go_num,by rw[m.o,d.o];omega,u.o.alloc _⟩
     case measure=>simp[intOf];omega
  .have t:k=l.length:=by omega
   have J:=jd t;clear t p;go_wp2_with fail;go_ret;exact⟨aH (by rw[J.o,xh];rfl),u.o⟩
theorem aT.mV{t B:Nat}{w:World}{v:Value}{xs:List Int}(h:aT t 1 Cc B w v xs):ib w v xs:=by
 obtain⟨A,c,rfl,i,j,f,m⟩:=h;refine⟨A,c,rfl,i,j,fun k x a=>?_,f⟩;cases A with
 |none=>have:=f rfl;rw[gD (by omega)]at a;cases a
 |some p=>obtain⟨g,o,d,rfl,_,r,_,s⟩:=m p rfl;obtain⟨u,e,z⟩:=s k x a;have e:u=_:=e;subst e;exact⟨g,o,rfl,(cell_of_row w g _ d t (0,0) r).trans (z 0 _ rfl)⟩
end Go.Proofs.YtcogknbbbjnaiaaGreatDoor
