/- For ShowTells: what the texts XPgT XPgF XMxP XMxM XMxF XMxQ XMxK XMxR XCdP XCdQ XCeA XCeS XCeT of wip/tpl say. -/
import Derived.Test.YtcogknbbbjnaiaaGreatDoorA
set_option maxRecDepth 1000000
namespace Go.Proofs.YtcogknbbbjnaiaaGreatDoor
namespace PG
open RX(aA WF FP FX under lift)
theorem DC:∀n,kids n []=[]
|0=>rfl
|_+1=>rfl
theorem j4{α:Type}{p:α->Bool}:∀{a b:List α},(∀x∈a,p x=true)->(∀x r,b=x::r->p x=false)->(a++b).takeWhile p=a/\(a++b).dropWhile p=b
|[],[],_,_=>⟨rfl,rfl⟩
|[],x::r,_,h=>by have:=h x r rfl;exact⟨by simp[this],by simp[this]⟩
|y::a,b,d,i=>by have e:=d y (by simp);have f:=j4 (a:=a) (b:=b) (fun x j=>d x (by simp[j])) i;exact⟨by simp[e,f.1],by simp[e,f.2]⟩
theorem Aw(e:Int):∀(ls:List (List aA))(n:Nat),(∀l∈ls,FX l)->(ls.flatten.map (lift e)).length<=n->kids n (ls.flatten.map (lift e))=ls.map (List.map (lift e))
|[],n,_,_=>DC n
|l::ls,n,f,h=>by
 obtain⟨t,r,rfl,z,j⟩:=f l (by simp);have k:(((t::r)::ls).flatten.map (lift e))=lift e t::(r.map (lift e)++ls.flatten.map (lift e)):=by simp
 rw[k]at h⊢;cases n with
 |zero=>simp at h
 |succ n=>have i:=j4 (p:=fun y:aA=>decide ((lift e t).deep<y.deep)) (a:=r.map (lift e)) (b:=ls.flatten.map (lift e)) (fun x d=>by obtain⟨y,v,rfl⟩:=List.mem_map.1 d;have:=j y v;exact decide_eq_true (by show t.deep+e<y.deep+e;omega)) (fun x s d=>by cases ls with|nil=>simp at d|cons m ls=>obtain⟨u,q,rfl,A,-⟩:=f m (by simp);simp at d;rw[<-d.1];exact decide_eq_false (by show¬t.deep+e<u.deep+e;omega));rw[kids,i.1,i.2,Aw e ls n (fun m w=>f m (by simp[w])) (by simp at h⊢;omega)];simp
theorem lZ{x:aA}{ls:List (List aA)}{e:Int}{n:Nat}(a:∀l∈ls,FX l):tree (n+1) ((under x ls).map (lift e))=iV (lift e x) (ls.map fun l=>tree n (l.map (lift (e+1)))):=by rw[RX.jy,tree,Aw (e+1) ls _ a (Nat.le_refl _),List.map_map];rfl
theorem dZ{x:aA}{ls:List (List aA)}{l:List aA}(h:l∈ls):l.length+1<=(under x ls).length:=by
 unfold under;rw[List.length_cons,List.length_map];have:l.length<=ls.flatten.length:=by
  induction ls with
  |nil=>simp at h
  |cons m ls a=>
   rw[List.flatten_cons,List.length_append];rcases List.mem_cons.1 h with rfl|h
   .omega
   .have:=a h;omega
 omega
theorem NB{g:Nat}{x:aD}(h:KR g 1 0 x):Ok g (one [x]):=by
 refine⟨mO (by simp),fun i y a=>?_⟩;match i,a with
 |0,a=>simp[one]at a;subst a;exact h
theorem Qi{g:Nat}{op:Int}(d:op≠4)(e:op≠5)(f:op≠3)(i:op≠0)(a:0<=op/\op<=5):Ok g (one [⟨op,0,0,false,[]⟩]):=NB ⟨fun h=>absurd h d,fun h=>absurd h e,fun h=>absurd h f,fun h=>absurd h i,a.1,a.2⟩
theorem aam{g:Nat}{neg:Bool}{s:List Int}(a:0<s.length)(d:s.length%2=0):Ok g (one [⟨0,0,0,neg,s⟩]):=NB ⟨fun h=>absurd h (by simp),fun h=>absurd h (by simp),fun h=>absurd h (by simp),fun _=>⟨List.ne_nil_of_length_pos a,d⟩,by simp,by simp⟩
theorem Qj{g:Nat}{x:Int}(a:0<=x)(d:x<=2*g+1):Ok g (save x):=NB ⟨fun h=>absurd h (by simp),fun h=>absurd h (by simp),fun _=>⟨a,d⟩,fun h=>absurd h (by simp),by simp,by simp⟩
mutual theorem mr{g:Nat}:∀{l:List aA}{a b:Int},WF l a b->0<=a->b<=g->∀(e:Int)(n:Nat),l.length<=n->Ok g (tree n (l.map (lift e)))
|_,_,_,.leaf x a h0 hd hk,_,_,e,n,hn=>by
 cases n with
 |zero=>simp at hn
 |succ n=>
  show Ok g (iV (lift e x) ((kids 0 []).map (tree n)));unfold iV;have hkind:(lift e x).kind=x.kind:=rfl;rw[hkind];rcases hk with h|h|⟨h,hs,h2⟩
  .rw[if_neg (by omega),if_neg (by omega),if_neg (by omega),if_pos h];exact Qi (by decide) (by decide) (by decide) (by decide) (by decide)
  .rw[if_neg (by omega),if_neg (by omega),if_neg (by omega),if_neg (by omega),if_pos h];exact Qi (by decide) (by decide) (by decide) (by decide) (by decide)
  .rw[if_neg (by omega),if_neg (by omega),if_pos h];exact aam hs h2
|_,_,_,.seq x ls a b hd hk hw,h0,hb,e,n,hn=>by
 have ht:=fun l hl=>(RX.jI hw).top l hl;cases n with
 |zero=>simp[under]at hn
 |succ n=>rw[lZ ht];unfold iV;rw[if_pos (show(lift e x).kind=0 from hk)];refine zi (fun p hp=>?_);obtain⟨l,hl,rfl⟩:=List.mem_map.1 hp;exact uJ hw h0 hb (e+1) n (fun m hm=>by have:=dZ (x:=x) hm;omega) l hl
|_,_,_,.alt x ls a b hd hk h2 hw,h0,hb,e,n,hn=>by
 have ht:=fun l hl=>(RX.jI hw).top l hl;cases n with
 |zero=>simp[under]at hn
 |succ n=>rw[lZ ht];unfold iV;rw[if_neg (show¬(lift e x).kind=0 by show¬x.kind=0;omega),if_pos (show(lift e x).kind=1 from hk)];refine AJ _ (fun p hp=>?_);obtain⟨l,hl,rfl⟩:=List.mem_map.1 hp;exact uJ hw h0 hb (e+1) n (fun m hm=>by have:=dZ (x:=x) hm;omega) l hl
|_,_,_,.rep x l a b hd hk hlh hw,h0,hb,e,n,hn=>by
 have ht:∀m∈[l],FX m:=fun m hm=>by simp at hm;subst hm;exact(RX.gm hw).top
 cases n with
 |zero=>simp[under]at hn
 |succ n=>
  rw[lZ ht];have hok:=mr hw h0 hb (e+1) n (by have:=dZ (x:=x) (ls:=[l]) (l:=l) (by simp);omega);have hkind:(lift e x).kind=6:=hk;unfold iV;rw[if_neg (by omega),if_neg (by omega),if_neg (by omega),if_neg (by omega),if_neg (by omega),if_neg (by omega)];simp only[List.map_cons,List.map_nil,List.headD_cons];split
  .exact zi (fun p hp=>by
    simp at hp;rcases hp with rfl|rfl
    .exact Dh hok _
    .exact zk hok _)
  .exact zi (fun p hp=>by
    simp at hp;rcases hp with rfl|rfl
    .exact Dh hok _
    .exact vQ hok _ _ _ I6)
|_,_,_,.mP x l a b hd hk hlo hw,h0,hb,e,n,hn=>by
 have ht:∀m∈[l],FX m:=fun m hm=>by simp at hm;subst hm;exact(RX.gm hw).top
 cases n with
 |zero=>simp[under]at hn
 |succ n=>rw[lZ ht];have hok:=mr hw h0 hb (e+1) n (by have:=dZ (x:=x) (ls:=[l]) (l:=l) (by simp);omega);have hkind:(lift e x).kind=5:=hk;have hlo2:(lift e x).lo=0:=hlo;unfold iV;rw[if_neg (by omega),if_neg (by omega),if_neg (by omega),if_neg (by omega),if_neg (by omega),if_pos hkind,if_neg (by omega)];exact hok
|_,_,_,.num x l a b h1 hd hk hlo hw,h0,hb,e,n,hn=>by
 have ht:∀m∈[l],FX m:=fun m hm=>by simp at hm;subst hm;exact(RX.gm hw).top
 have hle:=(RX.gm hw).le;cases n with
 |zero=>simp[under]at hn
 |succ n=>
  rw[lZ ht];have hok:=mr hw (by omega) hb (e+1) n (by have:=dZ (x:=x) (ls:=[l]) (l:=l) (by simp);omega);have hkind:(lift e x).kind=5:=hk;have hlo2:(lift e x).lo=a+1:=hlo;unfold iV;rw[if_neg (by omega),if_neg (by omega),if_neg (by omega),if_neg (by omega),if_neg (by omega),if_pos hkind,if_pos (by omega)];refine zi (fun p hp=>?_);simp at hp;rcases hp with rfl|rfl|rfl
  .exact Qj (by omega) (by omega)
  .exact hok
  .exact Qj (by omega) (by omega)
 theorem uJ{g:Nat}:∀{ls:List (List aA)}{a b:Int},FP ls a b->0<=a->b<=g->∀(e:Int)(n:Nat),(∀l∈ls,l.length<=n)->∀l∈ls,Ok g (tree n (l.map (lift e)))
|_,_,_,.nil a h0,_,_,_,_,_,l,hl=>by simp at hl
|_,_,_,.cons m ls a b c hw hs,h0,hb,e,n,hn,l,hl=>by
 have h1:=(RX.gm hw).le;have h2:=(RX.jI hs).le;rcases List.mem_cons.1 hl with hm|hl
 .rw[hm];exact mr hw h0 (by omega) e n (hn _ (by simp))
 .exact uJ hs (by omega) hb e n (fun q hq=>hn q (by simp[hq])) l hl
end
end PG
namespace RX
def Sm(x:aA):Prop:=x.set.length<=1000/\0<=x.lo/\x.lo<=9/\x.hi<=9
def sW(l:List aA):Prop:=∀x∈l,Sm x
theorem jL:sW []:=by intro x a;simp at a
theorem I4{x:aA}(h:Sm x):sW [x]:=by intro y a;simp at a;subst a;exact h
theorem zg{x:aA}{ls:List (List aA)}(e:Sm x)(h:∀l∈ls,sW l):sW (under x ls):=by
 intro y a;unfold under at a;rcases List.mem_cons.1 a with rfl|a
 .exact e
 .obtain⟨z,d,rfl⟩:=List.mem_map.1 a;obtain⟨l,f,d⟩:=List.mem_flatten.1 d;exact h l f z d
theorem qx{x:aA}{ls:List (List aA)}(h:sW (under x ls)):Sm x/\∀l∈ls,sW l:=by refine⟨h x (by unfold under;simp),fun l a z d=>?_⟩;exact h z.down (by unfold under;exact List.mem_cons_of_mem _ (List.mem_map.2 ⟨z,List.mem_flatten.2 ⟨l,a,d⟩,rfl⟩))
section
variable{s:List Int}
theorem P6(st:St):0<=(must s st).1/\(must s st).1<=9:=by
 unfold must;split
 .exact⟨by show(0:Int)<=0;omega,by show(0:Int)<=9;omega⟩
 .rename_i h;show 0<=digit (aR s st 0)/\digit (aR s st 0)<=9;refine⟨by omega,?_⟩;unfold digit at h⊢;split
  .omega
  .omega
theorem X6(st:St){lo:Int}(h:lo<=9):(high s lo st).1<=9:=by
 unfold high;split
 .split
  .exact(P6 _).2
  .show(-1:Int)<=9;omega
 .exact h
theorem GD{st a:St}{lo hi:Int}(h:eP s st=some (lo,hi,a)):0<=lo/\lo<=9/\hi<=9:=by
 unfold eP at h;simp only at h;split at h;rotate_left;focus
  split at h;rotate_left;focus
   split at h;rotate_left
   .split at h
    .injection h with h;injection h with e h;injection h with f h;subst e f;unfold bounds;simp only;have d:=P6 (s:=s) (st.bump 1);exact⟨d.1,d.2,X6 _ d.2⟩
    .cases h
  rotate_left
 rotate_left 2;all_goals
  injection h with h;injection h with e h;injection h with f h;omega
theorem Nu{st:St}{a:List aA}(d:sW a):sW (cK s a st).1:=by
 unfold cK;rcases f:eP s st with _|⟨lo,hi,i⟩
 .exact d
 .have h:=GD f;exact zg ⟨by simp[node],h.1,h.2.1,h.2.2⟩ (by intro l e;simp at e;subst e;exact d)
theorem Az(a:Bool){set:List Int}(h:set.length<=1000):sW [node 2 0 0 false a set]:=I4 ⟨h,by simp[node],by simp[node],by simp[node]⟩
theorem Nv(st:St):sW (bL s st).1:=by
 unfold bL;simp only;split
 .rename_i l d;have:=uL d;exact Az _ (by omega)
 .split
  .rename_i l a;have:=uL a;exact Az _ (by omega)
  .split
   .exact Az _ (by simp)
   .exact jL
theorem RG(d:s.length<=60)(st:St):sW (gZ s st).1:=by unfold gZ;simp only;refine Az _ ?_;generalize(if decide (aR s st 0=94)=true then st.bump 1 else st)=a;have h:=(qE (s:=s) (s.length+2-a.at_) a []).1;have e:([]:List Int).length=0:=rfl;omega
variable{alt:St->List aA×St}
theorem Ev{n:Int}{st:St}(d:∀st,sW (alt st).1)(e:0<=n)(f:n<=9):sW (dU s alt n st).1:=by unfold dU;exact zg ⟨by simp[node],e,f,by simp[node]⟩ (by intro l a;simp at a;subst a;exact d _)
theorem RH(a:∀st,sW (alt st).1)(st:St):sW (dP s alt st).1:=by
 unfold dP;split
 .exact jL
 .split
  .exact Ev a (by omega) (by omega)
  .split
   .exact jL
   .split
    .exact jL
    .exact Ev a (by omega) (by omega)
theorem UW(a:s.length<=60)(d:∀st,sW (alt st).1)(st:St):sW (di s alt st).1:=by
 unfold di;simp only;split
 .exact jL
 .split
  .exact RH d st
  .split
   .exact RG a _
   .split
    .exact Nv st
    .split
     .exact Az _ (by simp)
     .exact Az _ (by simp)
theorem UX(a:s.length<=60)(d:∀st,sW (alt st).1)(st:St):sW (bU s alt st).1:=by
 unfold bU;simp only;split
 .exact I4 ⟨by simp[node],by simp[node],by simp[node],by simp[node]⟩
 .split
  .exact I4 ⟨by simp[node],by simp[node],by simp[node],by simp[node]⟩
  .split
   .exact Nu (UW a d st)
   .exact jL
theorem Ew(d:s.length<=60)(e:∀st,sW (alt st).1):∀(n:Nat)(st:St)(items:List (List aA)),(∀l∈items,sW l)->sW (bD s alt n st items).1
|0,_,_,_=>jL
|n+1,st,items,hi=>by
 unfold bD;split
 .split
  .exact zg ⟨by simp[node],by simp[node],by simp[node],by simp[node]⟩ hi
  .refine Ew d e n _ _ (fun l a=>?_);rcases List.mem_append.1 a with a|a
   .exact hi l a
   .simp at a;subst a;exact UX d e st
 .exact jL
theorem P7(a:s.length<=60)(d:∀st,sW (alt st).1)(st:St):sW (rowP s alt st).1:=Ew a d _ _ _ (by intro l e;simp at e)
theorem Ex(f:s.length<=60)(h:∀st,sW (alt st).1):∀(n:Nat)(st:St)(a:List (List aA)),(∀l∈a,sW l)->∀l∈(bA s alt n st a).1,sW l
|0,_,_,e=>e
|n+1,st,a,e=>by
 unfold bA;split
 .refine Ex f h n _ _ (fun l d=>?_);rcases List.mem_append.1 d with d|d
  .exact e l d
  .simp at d;subst d;exact P7 f h _
 .exact e
theorem P8(d:s.length<=60)(e:∀st,sW (alt st).1)(st:St):sW (oD s alt st).1:=by
 unfold oD;simp only;have h:=Ex d e (s.length+2-(rowP s alt st).2.at_) (rowP s alt st).2 [(rowP s alt st).1] (by intro l f;simp at f;subst f;exact P7 d e st);generalize(bA s alt (s.length+2-(rowP s alt st).2.at_) (rowP s alt st).2 [(rowP s alt st).1]).1=a at h;split
 .cases a with
  |nil=>exact jL
  |cons x r=>exact h x (by simp)
 .exact zg ⟨by simp[node],by simp[node],by simp[node],by simp[node]⟩ h
theorem P9(a:s.length<=60):∀(n:Nat)(st:St),sW (gV s n st).1
|0,st=>P8 a (fun _=>jL) st
|n+1,st=>P8 a (P9 a n) st
end
theorem qO{s:List Int}{l:List aA}{c p:Int}(h:parse s=(l,c,p)):sW l:=by
 unfold parse at h;split at h
 .injection h with h _;rw[<-h];exact jL
 .rename_i f;split at h
  .injection h with h _;rw[<-h];exact jL
  .simp only at h;have e:=P9 (s:=s) (by omega) 12 ⟨0,0,0,0,0⟩;generalize gV s 12 ⟨0,0,0,0,0⟩=r at h e;generalize(if r.2.ok=true/\r.2.at_<s.length then r.2.fail 5 r.2.at_ else r.2)=d at h;by_cases a:d.ok=true
   .rw[if_pos a]at h;injection h with h _;rw[<-h];exact e
   .rw[if_neg a]at h;injection h with h _;rw[<-h];exact jL
theorem DK{s:List Int}{l:List aA}{b:Int}(h:parse s=(l,0,b)):b=0:=by
 unfold parse at h;split at h
 .injection h with _ h;injection h with h _;exact absurd h (by decide)
 .split at h
  .injection h with _ h;injection h with h _;exact absurd h (by decide)
  .simp only at h;generalize(if(gV s 12 ⟨0,0,0,0,0⟩).2.ok=true/\(gV s 12 ⟨0,0,0,0,0⟩).2.at_<s.length then(gV s 12 ⟨0,0,0,0,0⟩).2.fail 5 (gV s 12 ⟨0,0,0,0,0⟩).2.at_ else(gV s 12 ⟨0,0,0,0,0⟩).2)=d at h;by_cases a:d.ok=true
   .rw[if_pos a]at h;injection h with _ h;injection h with _ h;exact h.symm
   .rw[if_neg a]at h;injection h with _ h;injection h with h _;exact absurd (by unfold St.ok;rw[h];rfl) a
theorem vJ{s:List Int}{l:List aA}{c p:Int}(h:parse s=(l,c,p)):Tr 60 200 l:=by
 unfold parse at h;split at h
 .injection h with h _;rw[<-h];exact Tr.eU
 .rename_i i;split at h
  .injection h with h _;rw[<-h];exact Tr.eU
  .simp only at h;have d:=rH s 12 ⟨0,0,0,0,0⟩ rfl (Nat.zero_le _) (by decide);generalize gV s 12 ⟨0,0,0,0,0⟩=r at h d;have j:r.2.at_<=s.length+14:=d.1.hi;have f:Tr 60 200 r.1:=d.2.mono (by decide) (by show 2*(r.2.at_-0)+2<=200;omega);generalize(if r.2.ok=true/\r.2.at_<s.length then r.2.fail 5 r.2.at_ else r.2)=e at h;by_cases a:e.ok=true
   .rw[if_pos a]at h;injection h with h _;rw[<-h];exact f
   .rw[if_neg a]at h;injection h with h _;rw[<-h];exact Tr.eU
end RX
namespace MX
open PG(aD)
def lies(r:Int):List Int->Bool
|a::b::s=>(decide (a<=r)&&decide (r<=b))||lies r s
|_=>false
inductive Act
|done
|fail
|to(pc at_:Nat)
|save(x:Nat)
|split(p q:Nat)
abbrev Seen:=Nat->Nat->Bool
def mark(S:Seen)(pc at_:Nat):Seen:=fun p a=>if p=pc/\a=at_ then true else S p a
def Led(A:Nat->Nat->Act)(S:Seen)(pc at_:Nat):Prop:=match A pc at_ with
|.done=>False
|.fail=>True
|.to p a=>S p a=true
|.save _=>S (pc+1) at_=true
|.split p q=>S p at_=true/\S q at_=true
def Shut(A:Nat->Nat->Act)(S:Seen):Prop:=∀p a,S p a=true->Led A S p a
end MX
namespace MX
inductive W
|back(x:Nat)(v:Int)
|fwd(pc at_:Nat)
structure Cf where
 seen:Seen
 ways:List W
 notes:List Int
inductive Ph
|pop
|go(pc at_:Nat)
inductive Res
|found(notes:List Int)
|lost(seen:Seen)(notes:List Int)
inductive Go
|fail
|done
|to(pc at_:Nat)
def step(A:Nat->Nat->Act)(c:Cf)(pc at_:Nat):Cf×Go:=if c.seen pc at_=true then(c,.fail)else
 match A pc at_ with
|.done=>(⟨mark c.seen pc at_,c.ways,c.notes⟩,.done)
|.fail=>(⟨mark c.seen pc at_,c.ways,c.notes⟩,.fail)
|.to p a=>(⟨mark c.seen pc at_,c.ways,c.notes⟩,.to p a)
|.save x=>(⟨mark c.seen pc at_,.back x (c.notes.getD x (-1))::c.ways,c.notes.set x at_⟩,.to (pc+1) at_)
|.split p q=>(⟨mark c.seen pc at_,.fwd q at_::c.ways,c.notes⟩,.to p at_)
def next(A:Nat->Nat->Act)(c:Cf):Ph->(Cf×Ph)⊕Res
|.pop=>match c.ways with
 |[]=>.inr (.lost c.seen c.notes)
 |.back x v::r=>.inl (⟨c.seen,r,c.notes.set x v⟩,.pop)
 |.fwd pc at_::r=>.inl (⟨c.seen,r,c.notes⟩,.go pc at_)
|.go pc at_=>match step A c pc at_ with
 |(c',.fail)=>.inl (c',.pop)
 |(c',.done)=>.inr (.found c'.notes)
 |(c',.to p a)=>.inl (c',.go p a)
end MX
namespace PG
open RX(aA)
def All(P:aD->Prop)(p:Part):Prop:=∀x∈p.l,P x
structure Gen(P:aD->Prop):Prop where
 moved:∀(k:Int)(x:aD),P x->P (moved k x)
 split:∀x y:Int,P ⟨4,x,y,false,[]⟩
 jump:∀x:Int,P ⟨5,x,0,false,[]⟩
 save:∀x:Int,2<=x->P ⟨3,x,0,false,[]⟩
 start:P ⟨1,0,0,false,[]⟩
 end_:P ⟨2,0,0,false,[]⟩
 set:∀(neg:Bool)(set:List Int),set.length<=1000->P ⟨0,0,0,neg,set⟩
section
variable{P:aD->Prop}
theorem all_nil(n:Nat):All P ⟨[],n⟩:=by intro x a;simp at a
theorem KG(f:Gen P):∀(e:List Part)(a:Part),All P a->(∀p∈e,All P p)->All P (za a e)
|[],a,h,_=>h
|p::e,a,h,i=>by
 rw[za];split
 .exact all_nil _
 .refine KG f e _ (fun x d=>?_) (fun q j=>i q (by simp[j]));rcases List.mem_append.1 d with d|d
  .exact h x d
  .obtain⟨y,k,rfl⟩:=List.mem_map.1 d;exact f.moved _ _ (i p (by simp) y k)
theorem KH(d:Gen P){a:List Part}(h:∀p∈a,All P p):All P (row a):=KG d a _ (all_nil _) h
theorem RA{x:aD}(h:P x):All P (one [x]):=by intro y a;simp[one]at a;subst a;exact h
theorem Np(a:Gen P)(far:Int)(lz:Bool):All P (split far lz):=by unfold split;exact RA (by split<;>exact a.split _ _)
theorem Zd(a:Gen P)(far:Int):All P (jump far):=RA (a.jump _)
theorem Ze(a:Gen P){x:Int}(h:2<=x):All P (save x):=RA (a.save x h)
theorem PX(d:Gen P):∀(e:List Part),(∀p∈e,All P p)->All P (either e)
|[],_=>all_nil _
|[p],h=>h p (by simp)
|p::q::e,h=>by
 have f:=PX d (q::e) (fun x a=>h x (by simp at a⊢;right;exact a));rw[either];refine KH d (fun x a=>?_);simp at a;rcases a with rfl|rfl|rfl|rfl
 .exact Np d _ _
 .exact h _ (by simp)
 .exact Zd d _
 .exact f
theorem Zf(a:Gen P){p:Part}(h:All P p)(n:Nat):All P (many p n):=by
 unfold many;split
 .exact all_nil _
 .exact KH a (fun q d=>by rw[List.eq_of_mem_replicate d];exact h)
theorem UL(d:Gen P){p:Part}(h:All P p)(lz:Bool):∀(n:Nat)(a:Part),All P a->All P (nD p lz n a)
|0,_,e=>e
|n+1,a,e=>by
 rw[nD];refine UL d h lz n _ (KH d (fun x f=>?_));simp at f;rcases f with rfl|rfl|rfl
 .exact Np d _ _
 .exact h
 .exact e
theorem abK(a:Gen P){p:Part}(h:All P p)(lz:Bool):All P (loop p lz):=by
 refine KH a (fun x d=>?_);simp at d;rcases d with rfl|rfl|rfl
 .exact Np a _ _
 .exact h
 .exact Zd a _
theorem headA{ins:List Part}(h:∀p∈ins,All P p):All P (ins.headD ⟨[],0⟩):=by
 cases ins with
 |nil=>exact all_nil _
 |cons p a=>exact h p (by simp)
theorem abL(a:Gen P){x:aA}{ins:List Part}(e:x.set.length<=1000)(h:∀p∈ins,All P p):All P (iV x ins):=by
 unfold iV;split
 .exact KH a h
 .split
  .exact PX a _ h
  .split
   .exact RA (a.set _ _ e)
   .split
    .exact RA a.start
    .split
     .exact RA a.end_
     .split
      .split
       .refine KH a (fun y d=>?_);simp at d;rcases d with rfl|rfl|rfl
        .exact Ze a (by omega)
        .simpa using headA h
        .exact Ze a (by omega)
       .exact headA h
      .split
       .refine KH a (fun y d=>?_);simp at d;rcases d with rfl|rfl
        .exact Zf a (by simpa using headA h) _
        .exact abK a (by simpa using headA h) _
       .refine KH a (fun y d=>?_);simp at d;rcases d with rfl|rfl
        .exact Zf a (by simpa using headA h) _
        .exact UL a (by simpa using headA h) _ _ _ (all_nil _)
theorem KI:∀(n:Nat)(r:List aA),∀k∈kids n r,∀y∈k,y∈r
|0,r,k,a,_,_=>by cases r<;>simp[kids]at a
|n+1,[],k,a,_,_=>by simp[kids]at a
|n+1,x::r,k,a,y,d=>by
 rw[kids]at a;rcases List.mem_cons.1 a with rfl|a
 .rcases List.mem_cons.1 d with rfl|d
  .simp
  .exact List.mem_cons_of_mem _ ((List.takeWhile_sublist _).subset d)
 .exact List.mem_cons_of_mem _ ((List.dropWhile_sublist _).subset (KI n _ k a y d))
theorem Zg(a:Gen P):∀(n:Nat)(l:List aA),RX.sW l->All P (tree n l)
|0,_,_=>all_nil _
|_+1,[],_=>all_nil _
|n+1,x::r,h=>abL a (h x (by simp)).1 (fun p d=>by obtain⟨k,e,rfl⟩:=List.mem_map.1 d;exact Zg a n k (fun y f=>h y (List.mem_cons_of_mem _ (KI _ _ k e y f))))
end
theorem XX{k:Int}{x:aD}(h:x.op=3):(moved k x).x=x.x:=by unfold moved;rw[if_neg (by omega),if_neg (by omega)]
theorem aai:Gen (fun x=>(x.op=3->2<=x.x)/\x.set.length<=1000):=⟨fun k x h=>⟨fun a=>by rw[gI]at a;rw[XX a];exact h.1 a,by rw[rq];exact h.2⟩,fun _ _=>⟨fun h=>by simp at h,by simp⟩,fun _=>⟨fun h=>by simp at h,by simp⟩,fun x h=>⟨fun _=>h,by simp⟩,⟨fun h=>by simp at h,by simp⟩,⟨fun h=>by simp at h,by simp⟩,fun _ _ h=>⟨fun h=>by simp at h,h⟩⟩
def InM(g e:Nat)(i:Nat)(x:aD):Prop:=(x.op=4->1<=x.x/\x.x<=e/\1<=x.y/\x.y<=e/\(x.x=x.y->x.x=i+1))/\(x.op=5->1<=x.x/\x.x<=e)/\(x.op=3->2<=x.x/\x.x<=2*g+1)/\(x.op=0->x.set≠[]/\x.set.length%2=0)/\0<=x.op/\x.op<=5
structure Made(l:List aD)(g e:Nat):Prop where
 len:l.length=e+2
 pos:1<=e
 le:e<=298
 first:l[0]?=some ⟨3,0,0,false,[]⟩
 note:l[e]?=some ⟨3,1,0,false,[]⟩
 last:l[e+1]?=some ⟨6,0,0,false,[]⟩
 mid:∀i x,l[i]?=some x->1<=i->i<e->InM g e i x
theorem xW{l:List aA}{g:Nat}(r:RX.sW l)(s:Ok g (tree l.length l))(h:(whole l).n<=300):Made (whole l).l g ((tree l.length l).n+1)/\(∀x∈(whole l).l,x.set.length<=1000)/\(whole l).n=(tree l.length l).n+3/\(whole l).l=⟨3,0,0,false,[]⟩::((tree l.length l).l.map (moved 1)++[⟨3,1,0,false,[]⟩,⟨6,0,0,false,[]⟩]):=by
 have d:=Zg aai l.length l r;unfold whole at h⊢;generalize tree l.length l=T at s d h⊢;have z:∀p∈[save 0,T,save 1,one [⟨6,0,0,false,[]⟩]],wK p:=by
  intro p u;simp at u;rcases u with rfl|rfl|rfl|rfl
  .exact Ag _
  .exact s.1
  .exact Ag _
  .exact mO (by simp)
 have v:total [save 0,T,save 1,one [⟨6,0,0,false,[]⟩]]=1+(T.n+(1+(1+0))):=rfl;have w:=Dx z;by_cases A:total [save 0,T,save 1,one [⟨6,0,0,false,[]⟩]]<301
 .have k:=w.1 A;have e:T.l.length=T.n:=k.2 T (by simp);have t:(row [save 0,T,save 1,one [⟨6,0,0,false,[]⟩]]).l=⟨3,0,0,false,[]⟩::(T.l.map (moved 1)++[⟨3,1,0,false,[]⟩,⟨6,0,0,false,[]⟩]):=by rw[k.1];simp[flat,save,one,moved]
  have B:(row [save 0,T,save 1,one [⟨6,0,0,false,[]⟩]]).n=T.n+3:=by rw[k.1];show total _=_;omega
  refine⟨?_,?_,B,t⟩;rotate_left
  .rw[t];intro x f;simp at f;rcases f with rfl|⟨y,m,rfl⟩|rfl|rfl
   .simp
   .rw[rq];exact(d y m).2
   .simp
   .simp
  rw[t];refine⟨by simp;omega,by omega,by omega,rfl,?_,?_,?_⟩
  .rw[List.getElem?_cons_succ,List.getElem?_append_right (by simp;omega)];simp[e]
  .rw[List.getElem?_cons_succ,List.getElem?_append_right (by simp;omega)];simp[e]
  .intro i x f k J;obtain⟨j,rfl⟩:∃j,i=j+1:=⟨i-1,by omega⟩;rw[List.getElem?_cons_succ,List.getElem?_append_left (by simp;omega),List.getElem?_map,Option.map_eq_some_iff]at f;obtain⟨y,m,rfl⟩:=f;obtain⟨C,D,E,F,G,H⟩:=s.2 j y m;have I:=(d y (List.mem_of_getElem? m)).1;refine⟨fun a=>?_,fun a=>?_,fun a=>?_,fun a=>?_,by rw[gI];exact G,by rw[gI];exact H⟩
   .rw[gI]at a;have:=C a;unfold moved;rw[if_pos a];simp only;push_cast;omega
   .rw[gI]at a;have:=D a;unfold moved;rw[if_neg (by omega),if_pos a];simp only;push_cast;omega
   .rw[gI]at a;have:=E a;have:=I a;unfold moved;rw[if_neg (by omega),if_neg (by omega)];omega
   .rw[gI]at a;rw[rq];exact F a
 .rw[w.2 (by omega)]at h;have h:301<=300:=h;omega
theorem IM{s:List Int}{l:List aD}{p:Int}(h:compile s=(l,0,p)):∃(t:List aA)(e:Nat),RX.parse s=(t,0,0)/\Made l (RX.groups t) e/\l=(whole t).l/\(whole t).n<=300/\p=0:=by
 unfold compile at h;rcases d:RX.parse s with⟨t,c,q⟩;rw[d]at h;simp only at h;by_cases f:c=0
 .subst f;rw[if_pos rfl]at h;by_cases k:300<(whole t).n
  .rw[if_pos k]at h;injection h with _ h;injection h with h _;cases h
  .rw[if_neg k]at h;injection h with m i;injection i with _ i;obtain⟨b,r,-⟩:=RX.yD d;have u:=RX.gm r;have z:(RX.groups t:Int)=b:=by have:=u.mP;omega
   have a:=mr (g:=RX.groups t) r (Int.le_refl _) (by omega) 0 t.length (Nat.le_refl _);have j:t.map (RX.lift 0)=t:=by
    conv=>rhs;rw[<-List.map_id t]
    exact List.map_congr_left fun x _=>by unfold RX.lift;simp
   rw[j]at a;have v:=xW (RX.qO d) a (by omega);have w:q=0:=RX.DK d;subst w;exact⟨t,_,rfl,m▸v.1,m.symm,by omega,i.symm⟩
 .rw[if_neg f]at h;injection h with _ h;injection h with h _;exact absurd h f
end PG
namespace MX
open PG(aD Made InM)
structure Nt(g e lo pc at_:Nat)(nt:List Int):Prop where
 len:nt.length=2*g+2
 ge:lo<=at_
 in_:∀(i:Nat)(v:Int),nt[i]?=some v->v=-1\/((lo:Int)<=v/\v<=at_)
 zero:pc=0->at_=lo
 first:1<=pc->nt[0]?=some (lo:Int)
 last:pc=e+1->nt[1]?=some (at_:Int)
end MX
namespace MX
end MX
namespace MX
open PG(aD)
def Small(r:Int):Prop:=(97<=r/\r<=122)\/(224<=r/\r<=254/\r≠247)
end MX
namespace PG
open RX(aA WF FP FX under lift)
def fl:Nat->List (List aD)->List aD
|_,[]=>[]
|k,c::cs=>c.map (moved k)++fl (k+c.length) cs
def lens(cs:List (List aD)):Nat:=(cs.map List.length).foldr (·+·) 0
def qG(far:Int)(lz:Bool):List aD:=[if lz then⟨4,far,1,false,[]⟩else⟨4,1,far,false,[]⟩]
def iJ(far:Int):List aD:=[⟨5,far,0,false,[]⟩]
def iS(x:Int):List aD:=[⟨3,x,0,false,[]⟩]
def bB:List (List aD)->List aD
|[]=>[]
|[c]=>c
|c::d::cs=>fl 0 [qG (c.length+2) false,c,iJ ((bB (d::cs)).length+1),bB (d::cs)]
def dB(c:List aD)(lz:Bool):Nat->List aD
|0=>[]
|n+1=>fl 0 [qG (1+c.length+(dB c lz n).length) lz,c,dB c lz n]
def nO(c:List aD)(lz:Bool):List aD:=fl 0 [qG (c.length+2) lz,c,iJ (-(c.length:Int)-1)]
def nP(c:List aD)(n:Nat):List aD:=fl 0 (List.replicate n c)
def nQ(x:aA)(cs:List (List aD)):List aD:=if x.kind=0 then fl 0 cs
 else if x.kind=1 then bB cs
 else if x.kind=2 then[⟨0,0,0,x.neg,x.set⟩]
 else if x.kind=3 then[⟨1,0,0,false,[]⟩]
 else if x.kind=4 then[⟨2,0,0,false,[]⟩]
 else if x.kind=5 then(if 0<x.lo then fl 0 [iS (2*x.lo),cs.headD [],iS (2*x.lo+1)]else cs.headD [])
 else if x.hi<0 then fl 0 [nP (cs.headD []) x.lo.toNat,nO (cs.headD []) x.lazy]
 else fl 0 [nP (cs.headD []) x.lo.toNat,dB (cs.headD []) x.lazy (x.hi-x.lo).toNat]
def kX:Nat->List aA->List aD
|0,_=>[]
|_+1,[]=>[]
|n+1,x::r=>nQ x ((kids r.length r).map (kX n))
def Rel(p:Part)(c:List aD):Prop:=wK p/\p.n=min 301 c.length/\(c.length<301->p.l=c)
theorem dG:∀(cs:List (List aD))(k:Nat),(fl k cs).length=lens cs
|[],_=>rfl
|c::cs,k=>by rw[fl,List.length_append,List.length_map,dG cs];rfl
inductive wM:List Part->List (List aD)->Prop
|nil:wM [] []
|cons{p:Part}{c:List aD}{ps:List Part}{cs:List (List aD)}:Rel p c->wM ps cs->wM (p::ps) (c::cs)
theorem Gv{d:List Part}{cs:List (List aD)}(h:wM d cs):∀p∈d,wK p:=by
 induction h with
 |nil=>intro p a;cases a
 |cons h _ e=>
  intro p a;rcases List.mem_cons.1 a with rfl|a
  .exact h.1
  .exact e p a
theorem Dw{a:List Part}{cs:List (List aD)}(h:wM a cs):min 301 (total a)=min 301 (lens cs):=by
 induction h with
 |nil=>rfl
 |cons h _ d=>rename_i p c a cs _;have e:total (p::a)=p.n+total a:=rfl;have f:lens (c::cs)=c.length+lens cs:=rfl;have:=h.2.1;omega
theorem QR{a:List Part}{cs:List (List aD)}(h:wM a cs):lens cs<301->∀k,flat k a=fl k cs:=by
 induction h with
 |nil=>intro _ k;rfl
 |cons h _ d=>rename_i p c a cs _;intro f k;have i:lens (c::cs)=c.length+lens cs:=rfl;have e:=h.2.2 (by omega);have j:=h.2.1;rw[flat,fl,e,d (by omega),show p.n=c.length by omega]
theorem nW{a:List Part}{cs:List (List aD)}(h:wM a cs):Rel (row a) (fl 0 cs):=by
 have e:=Gv h;have j:=Dw h;have d:=Dx e;refine⟨JX e,?_,fun f=>?_⟩
 .rw[dG];by_cases i:total a<301
  .rw[(d.1 i).1];show total a=_;omega
  .rw[d.2 (by omega)];show 301=_;omega
 .rw[dG]at f;rw[(d.1 (by omega)).1];exact QR h f 0
theorem rO{l:List aD}(h:l.length<301):Rel (one l) l:=⟨mO h,by show l.length=_;omega,fun _=>rfl⟩
theorem zS(far:Int)(lz:Bool):Rel (split far lz) (qG far lz):=rO (by simp)
theorem JY(far:Int):Rel (jump far) (iJ far):=rO (by simp)
theorem yF(x:Int):Rel (save x) (iS x):=rO (by simp)
theorem rP:Rel ⟨[],0⟩ []:=⟨.inl ⟨by decide,rfl⟩,rfl,fun _=>rfl⟩
theorem Tz{p q:Part}{c d:List aD}(a:Rel p c)(e:Rel q d):wM [p,q] [c,d]:=.cons a (.cons e .nil)
theorem Pf{p q r:Part}{c d e:List aD}(a:Rel p c)(f:Rel q d)(h:Rel r e):wM [p,q,r] [c,d,e]:=.cons a (Tz f h)
theorem YZ{p q r s:Part}{c d e f:List aD}(a:Rel p c)(h:Rel q d)(i:Rel r e)(j:Rel s f):wM [p,q,r,s] [c,d,e,f]:=.cons a (Pf h i j)
theorem TA{p:Part}{c:List aD}(a:p=⟨[],301⟩)(d:301<=c.length):Rel p c:=by subst a;exact⟨.inr ⟨rfl,rfl⟩,by show 301=_;omega,fun h=>by omega⟩
theorem Dy{a:List Part}{cs d:List (List aD)}(h:wM a cs)(f:301<=lens cs)(e:301<=lens d):Rel (row a) (fl 0 d):=by have i:=Dw h;exact TA ((Dx (Gv h)).2 (by omega)) (by rw[dG];exact e)
theorem Bz(a b c d:List aD):lens [a,b,c,d]=a.length+(b.length+(c.length+(d.length+0))):=rfl
theorem uq(a b c:List aD):lens [a,b,c]=a.length+(b.length+(c.length+0)):=rfl
theorem Mw{a:List Part}{cs:List (List aD)}(h:wM a cs):Rel (either a) (bB cs):=by
 induction h with
 |nil=>exact rP
 |cons h i e=>
  rename_i p c a cs;cases i with
  |nil=>exact h
  |cons k j=>
   rename_i q d a cs;rw[either,bB];generalize either (q::a)=o at e⊢;generalize bB (d::cs)=u at e⊢;have m:=h.2.1;have r:=e.2.1;have f:=YZ (zS (p.n+2) false) h (JY (o.n+1)) e;by_cases s:c.length<301/\u.length<301
   .rw[show p.n=c.length by omega,show o.n=u.length by omega]at f⊢;exact nW f
   .refine Dy f ?_ ?_
    .rw[Bz];simp[qG,iJ];omega
    .rw[Bz];simp[qG,iJ];omega
theorem JZ{p:Part}{c:List aD}(h:Rel p c):∀n,wM (List.replicate n p) (List.replicate n c)
|0=>.nil
|n+1=>.cons h (JZ h n)
theorem Pg:∀(n k:Nat),fl k (List.replicate n [])=[]
|0,_=>rfl
|n+1,k=>by rw[List.replicate_succ,fl,Pg n];rfl
theorem J2{p:Part}{c:List aD}(h:Rel p c)(n:Nat):Rel (many p n) (nP c n):=by
 unfold many nP;split
 .have d:=h.2.1;have a:c=[]:=List.eq_nil_of_length_eq_zero (by omega);rw[a,Pg];exact rP
 .exact nW (JZ h n)
theorem TB{p:Part}{c:List aD}(h:Rel p c)(lz:Bool):Rel (loop p lz) (nO c lz):=by
 unfold loop nO;have d:=h.2.1;have a:=Pf (zS (p.n+2) lz) h (JY (-(p.n:Int)-1));by_cases e:c.length<301
 .rw[show p.n=c.length by omega]at a⊢;exact nW a
 .refine Dy a ?_ ?_
  .rw[uq];simp[qG,iJ];omega
  .rw[uq];simp[qG,iJ];omega
theorem oG(c:List aD)(lz:Bool):∀n,(dB c lz n).length=n*(c.length+1)
|0=>by simp[dB]
|n+1=>by rw[dB,dG,uq,oG c lz n,Nat.add_mul];simp[qG];omega
theorem Mx{p o:Part}{c:List aD}{lz:Bool}{m:Nat}(h:Rel p c)(d:Rel o (dB c lz m)):Rel (row [split (1+p.n+o.n) lz,p,o]) (dB c lz (m+1)):=by
 rw[dB];have e:=h.2.1;have f:=d.2.1;have a:=Pf (zS (1+p.n+o.n) lz) h d;by_cases i:c.length<301/\(dB c lz m).length<301
 .rw[show p.n=c.length by omega,show o.n=(dB c lz m).length by omega]at a⊢;exact nW a
 .refine Dy a ?_ ?_
  .rw[uq];simp[qG];omega
  .rw[uq];simp[qG];omega
theorem xL{p:Part}{c:List aD}(h:Rel p c)(lz:Bool):∀(n m:Nat)(o:Part),Rel o (dB c lz m)->Rel (nD p lz n o) (dB c lz (m+n))
|0,_,_,a=>a
|n+1,m,o,a=>by rw[nD,show m+(n+1)=(m+1)+n by omega];exact xL h lz n (m+1) _ (Mx h a)
theorem QT{p:Part}{c:List aD}(h:Rel p c)(n:Nat)(lz:Bool):Rel (maybe p n lz) (dB c lz n):=by
 unfold maybe;by_cases d:p.n=301
 .rw[if_pos d];have k:=h.2.1;have a:=xL h lz (min n 1) 0 ⟨[],0⟩ rP;rw[Nat.zero_add]at a;rcases Nat.lt_or_ge n 1 with e|e
  .rw[show min n 1=n by omega]at a⊢;exact a
  .rw[show min n 1=1 by omega]at a⊢;have f:=oG c lz 1;have m:=oG c lz n;have r:c.length+1<=n*(c.length+1):=Nat.le_mul_of_pos_left _ e;obtain⟨i,j,-⟩:=a;refine⟨i,by rw[j];omega,fun h=>by omega⟩
 .rw[if_neg d];have a:=xL h lz n 0 ⟨[],0⟩ rP;rwa[Nat.zero_add]at a
theorem QU{a:List Part}{cs:List (List aD)}(h:wM a cs):Rel (a.headD ⟨[],0⟩) (cs.headD []):=by
 cases h with
 |nil=>exact rP
 |cons h _=>exact h
theorem TC{x:aA}{d:List Part}{cs:List (List aD)}(h:wM d cs):Rel (iV x d) (nQ x cs):=by
 have a:=QU h;unfold iV nQ;split
 .exact nW h
 split
 .exact Mw h
 split
 .exact rO (by simp)
 split
 .exact rO (by simp)
 split
 .exact rO (by simp)
 split
 .split
  .exact nW (Pf (yF _) a (yF _))
  .exact a
 split
 .exact nW (Tz (J2 a _) (TB a _))
 .exact nW (Tz (J2 a _) (QT a _ _))
theorem J3{n:Nat}{ih:∀l,Rel (tree n l) (kX n l)}:∀ls:List (List aA),wM (ls.map (tree n)) (ls.map (kX n))
|[]=>.nil
|l::ls=>.cons (ih l) (J3 (ih:=ih) ls)
theorem J4:∀(n:Nat)(l:List aA),Rel (tree n l) (kX n l)
|0,_=>rP
|_+1,[]=>rP
|n+1,x::r=>by rw[tree,kX];exact TC (J3 (ih:=J4 n) _)
def zR(l:List aA):List aD:=fl 0 [iS 0,kX l.length l,iS 1,[⟨6,0,0,false,[]⟩]]
theorem QQ(l:List aA):Rel (whole l) (zR l):=nW (YZ (yF 0) (J4 _ l) (yF 1) (rO (by simp)))
theorem Mt(l:List aA):(zR l).length=(kX l.length l).length+3:=by rw[zR,dG,Bz];simp[iS];omega
def lH(ns:List Nat):Nat:=ns.foldr (·+·) 0
def oH(x:aA)(ns:List Nat):Nat:=if x.kind=0 then lH ns
 else if x.kind=1 then lH ns+2*(ns.length-1)
 else if x.kind=2 then 1
 else if x.kind=3 then 1
 else if x.kind=4 then 1
 else if x.kind=5 then(if 0<x.lo then ns.headD 0+2 else ns.headD 0)
 else if x.hi<0 then x.lo.toNat*ns.headD 0+ns.headD 0+2
 else x.lo.toNat*ns.headD 0+(x.hi-x.lo).toNat*(ns.headD 0+1)
def gH:Nat->List aA->Nat
|0,_=>0
|_+1,[]=>0
|n+1,x::r=>oH x ((kids r.length r).map (gH n))
theorem TD(cs:List (List aD)):lens cs=lH (cs.map List.length):=rfl
theorem pK:∀cs:List (List aD),(bB cs).length=lH (cs.map List.length)+2*(cs.length-1)
|[]=>rfl
|[c]=>by simp[bB,lH]
|c::d::cs=>by rw[bB,dG,Bz,pK (d::cs)];simp[qG,iJ,lH];omega
theorem Dz(c:List aD):∀n,lens (List.replicate n c)=n*c.length
|0=>by simp[lens]
|n+1=>by have h:lens (List.replicate (n+1) c)=c.length+lens (List.replicate n c):=rfl;rw[h,Dz c n,Nat.add_mul];omega
theorem headD_map(cs:List (List aD)):(cs.map List.length).headD 0=(cs.headD []).length:=by cases cs<;>rfl
theorem vG(x:aA)(cs:List (List aD)):(nQ x cs).length=oH x (cs.map List.length):=by
 unfold nQ oH;rw[headD_map];split
 .rw[dG,TD]
 split
 .rw[pK,List.length_map]
 split
 .rfl
 split
 .rfl
 split
 .rfl
 split
 .split
  .rw[dG,uq];simp[iS];omega
  .rfl
 have d:∀a b:List aD,lens [a,b]=a.length+(b.length+0):=fun _ _=>rfl;split
 .rw[dG,d,nP,dG,Dz,nO,dG,uq];simp[qG,iJ];omega
 .rw[dG,d,nP,dG,Dz,oG];rfl
theorem vF:∀(n:Nat)(l:List aA),(kX n l).length=gH n l
|0,_=>rfl
|_+1,[]=>rfl
|n+1,x::r=>by rw[kX,gH,vG,List.map_map];congr 1;exact List.map_congr_left fun l _=>vF n l
def qw(zs:List Nat):Nat:=zs.foldl (fun a z=>min (a+z) 100000) 0
def Y0(x:aA)(zs:List Nat):Int:=if x.kind=2 then 1
 else if x.kind=3 then 1
 else if x.kind=4 then 1
 else if x.kind=1 then qw zs+2*((zs.length:Int)-1)
 else if x.kind=5/\0<x.lo then qw zs+2
 else if x.kind=6 then(if x.hi<0 then min (x.lo*qw zs+qw zs+2) 100000 else min (x.lo*qw zs+(x.hi-x.lo)*(qw zs+1)) 100000)
 else qw zs
def xq:Nat->List aA->Int
|0,_=>0
|_+1,[]=>0
|n+1,x::r=>Y0 x ((kids r.length r).map fun l=>(xq n l).toNat)
def Cl(z:Int)(n:Nat):Prop:=0<=z/\min z 100000=min (n:Int) 100000
def NOk(x:aA)(ks:List (List aA)):Prop:=RX.Sm x/\(x.kind=0\/(x.kind=1/\2<=ks.length)\/((x.kind=2\/x.kind=3\/x.kind=4)/\ks=[])\/(x.kind=5/\ks.length=1)\/(x.kind=6/\ks.length=1/\(x.hi<0\/x.lo<=x.hi)))
inductive Tree:Int->List aA->Prop
|mk(e:Int)(x:aA)(ks:List (List aA)):x.deep=e->NOk x ks->(∀k∈ks,Tree (e+1) k)->Tree e (x::ks.flatten)
theorem TE{α:Type}{a:List (List α)}{y:α}(h:y∈a.flatten):∃k∈a,y∈k:=by obtain⟨k,d,e⟩:=List.mem_flatten.1 h;exact⟨k,d,e⟩
theorem Tree.top{e:Int}{t:List aA}(h:Tree e t):∃x r,t=x::r/\x.deep=e/\∀y∈r,e<y.deep:=by
 induction h with
 |mk e x m d p _ f=>
  refine⟨x,_,rfl,d,fun y a=>?_⟩;obtain⟨k,i,a⟩:=TE a;obtain⟨z,r,rfl,s,j⟩:=f k i;rcases List.mem_cons.1 a with rfl|a
  .omega
  .have:=j y a;omega
theorem Tree.pos{e:Int}{t:List aA}(h:Tree e t):0<t.length:=by obtain⟨x,r,rfl,-⟩:=h.top;simp
theorem lX{e:Int}:∀(d:List (List aA))(n:Nat),(∀k∈d,Tree e k)->d.flatten.length<=n->kids n d.flatten=d
|[],n,_,_=>DC n
|k::d,n,h,i=>by
 obtain⟨t,r,rfl,z,v⟩:=(h k (by simp)).top;rw[List.flatten_cons,List.cons_append]at i⊢;cases n with
 |zero=>simp at i
 |succ n=>have j:=j4 (p:=fun y:aA=>decide (t.deep<y.deep)) (a:=r) (b:=d.flatten) (fun x f=>by have:=v x f;exact decide_eq_true (by omega)) (fun x s f=>by cases d with|nil=>simp at f|cons m d=>obtain⟨u,q,rfl,A,-⟩:=(h m (by simp)).top;rw[List.flatten_cons,List.cons_append]at f;injection f with f _;rw[<-f];exact decide_eq_false (by omega));rw[kids,j.1,j.2,lX d n (fun m w=>h m (by simp[w])) (by simp at i⊢;omega)]
theorem fG{α:Type}{a:List (List α)}{k:List α}(h:k∈a):k.length<=a.flatten.length:=by
 induction a with
 |nil=>cases h
 |cons m a d=>
  rw[List.flatten_cons,List.length_append];rcases List.mem_cons.1 h with rfl|h
  .omega
  .have:=d h;omega
theorem Pj{e:Int}{x:aA}{a:List (List aA)}{n:Nat}(h:∀k∈a,Tree e k):gH (n+1) (x::a.flatten)=oH x (a.map (gH n)):=by rw[gH,lX a _ h (Nat.le_refl _)]
theorem MB{e:Int}{x:aA}{a:List (List aA)}{n:Nat}(h:∀k∈a,Tree e k):xq (n+1) (x::a.flatten)=Y0 x (a.map fun l=>(xq n l).toNat):=by rw[xq,lX a _ h (Nat.le_refl _)]
theorem J5{e:Int}{x:aA}{a:List (List aA)}{n:Nat}(h:∀k∈a,Tree e k):kX (n+1) (x::a.flatten)=nQ x (a.map (kX n)):=by rw[kX,lX a _ h (Nat.le_refl _)]
mutual theorem yE:∀{l:List aA}{a b:Int},WF l a b->RX.sW l->∀e:Int,Tree e (l.map (lift e))
|_,_,_,.leaf x a h0 hd hk,hs,e=>by have h:=Tree.mk e (lift e x) [] (by show x.deep+e=e;omega) ⟨hs x (by simp),.inr (.inr (.inl ⟨by show x.kind=2\/x.kind=3\/x.kind=4;rcases hk with h|h|⟨h,_⟩<;>simp[h],rfl⟩))⟩ (by simp);exact h
|_,_,_,.seq x ls a b hd hk hw,hs,e=>by have hin:=RX.qx hs;rw[RX.jy,List.map_flatten];exact Tree.mk e (lift e x) _ (by show x.deep+e=e;omega) ⟨hin.1,.inl hk⟩ (zT hw hin.2 (e+1))
|_,_,_,.alt x ls a b hd hk h2 hw,hs,e=>by have hin:=RX.qx hs;rw[RX.jy,List.map_flatten];exact Tree.mk e (lift e x) _ (by show x.deep+e=e;omega) ⟨hin.1,.inr (.inl ⟨hk,by simpa using h2⟩)⟩ (zT hw hin.2 (e+1))
|_,_,_,.rep x l a b hd hk hlh hw,hs,e=>by
 have hin:=RX.qx hs;rw[RX.jy,List.map_flatten];refine Tree.mk e (lift e x) _ (by show x.deep+e=e;omega) ⟨hin.1,.inr (.inr (.inr (.inr ⟨hk,by simp,?_⟩)))⟩ ?_
 .show x.hi<0\/x.lo<=x.hi;rcases Int.lt_or_le x.hi 0 with h|h
  .exact .inl h
  .exact .inr (hlh h)
 .intro k hk;simp at hk;subst hk;exact yE hw (hin.2 l (by simp)) (e+1)
|_,_,_,.mP x l a b hd hk hlo hw,hs,e=>by have hin:=RX.qx hs;rw[RX.jy,List.map_flatten];refine Tree.mk e (lift e x) _ (by show x.deep+e=e;omega) ⟨hin.1,.inr (.inr (.inr (.inl ⟨hk,by simp⟩)))⟩ ?_;intro k hk;simp at hk;subst hk;exact yE hw (hin.2 l (by simp)) (e+1)
|_,_,_,.num x l a b h1 hd hk hlo hw,hs,e=>by have hin:=RX.qx hs;rw[RX.jy,List.map_flatten];refine Tree.mk e (lift e x) _ (by show x.deep+e=e;omega) ⟨hin.1,.inr (.inr (.inr (.inl ⟨hk,by simp⟩)))⟩ ?_;intro k hk;simp at hk;subst hk;exact yE hw (hin.2 l (by simp)) (e+1)
 theorem zT:∀{ls:List (List aA)}{a b:Int},FP ls a b->(∀l∈ls,RX.sW l)->∀e:Int,∀k∈ls.map (List.map (lift e)),Tree e k
|_,_,_,.nil a h0,_,e,k,hk=>by simp at hk
|_,_,_,.cons m ls a b c hw hs,hm,e,k,hk=>by
 rw[List.map_cons]at hk;rcases List.mem_cons.1 hk with rfl|hk
 .exact yE hw (hm _ (by simp)) e
 .exact zT hs (fun q hq=>hm q (by simp[hq])) e k hk
end
theorem Y1:∀(d:List Nat)(a:Nat),a<=100000->d.foldl (fun a z=>min (a+z) 100000) a=min (a+lH d) 100000
|[],a,h=>by simp[lH];omega
|z::d,a,h=>by have e:lH (z::d)=z+lH d:=rfl;rw[List.foldl_cons,Y1 d _ (by omega),e];omega
theorem Io(a:List Nat):qw a=min (lH a) 100000:=by rw[qw,Y1 a 0 (by omega),Nat.zero_add]
theorem Pk(f g:List aA->Nat):∀a:List (List aA),(∀k∈a,min (f k) 100000=min (g k) 100000)->min (lH (a.map f)) 100000=min (lH (a.map g)) 100000
|[],_=>rfl
|k::a,h=>by have d:lH ((k::a).map f)=f k+lH (a.map f):=rfl;have e:lH ((k::a).map g)=g k+lH (a.map g):=rfl;have:=h k (by simp);have:=Pk f g a (fun m i=>h m (by simp[i]));rw[d,e];omega
theorem DD{α:Type}{l:List α}(h:l.length=1):∃x,l=[x]:=by
 match l,h with
 |[x],_=>exact⟨x,rfl⟩
theorem TF{a b m:Nat}(h:min a 100000=min b 100000):min (m*a) 100000=min (m*b) 100000:=by
 rcases Nat.lt_or_ge a 100000 with d|d
 .rw[show a=b by omega]
 .cases m with
  |zero=>simp
  |succ m=>have e:a<=(m+1)*a:=Nat.le_mul_of_pos_left _ (by omega);have f:b<=(m+1)*b:=Nat.le_mul_of_pos_left _ (by omega);omega
theorem Pm{e:Int}{t:List aA}(h:Tree e t):∀n,t.length<=n->Cl (xq n t) (gH n t):=by
 induction h with
 |mk e x i E F r G=>
  intro n H;cases n with
  |zero=>simp at H
  |succ n=>
   rw[MB r,Pj r];have v:min (qw (i.map fun l=>(xq n l).toNat)) 100000=min (lH (i.map (gH n))) 100000:=by rw[Io];have:=Pk (fun l=>(xq n l).toNat) (gH n) i (fun k f=>by have:=fG f;have u:=G k f n (by have p:(x::i.flatten).length=i.flatten.length+1:=List.length_cons;omega);have:=u.1;have:=u.2;show min (xq n k).toNat 100000=_;omega);omega
   have w:qw (i.map fun l=>(xq n l).toNat)<=100000:=by rw[Io];omega
   have A:(i.map fun l=>(xq n l).toNat).length=i.length:=List.length_map _;have B:(i.map (gH n)).length=i.length:=List.length_map _;have j:i.length=1->lH (i.map (gH n))=(i.map (gH n)).headD 0:=fun u=>by obtain⟨k,rfl⟩:=DD u;simp[lH]
   obtain⟨⟨-,I,N,J⟩,f⟩:=F;unfold Y0 oH;rw[A,B];generalize qw (i.map fun l=>(xq n l).toNat)=z at v w⊢;generalize lH (i.map (gH n))=m at v j⊢;generalize(i.map (gH n)).headD 0=b at j⊢;rcases f with f|⟨f,p⟩|⟨f,p⟩|⟨f,p⟩|⟨f,p,O⟩
   .simp only[f];simp;exact⟨by omega,by omega⟩
   .simp only[f];simp;exact⟨by omega,by omega⟩
   .rcases f with f|f|f<;>(simp only[f];simp;exact⟨by omega,by omega⟩)
   .have C:=j p;subst C;simp only[f];simp;split
    .exact⟨by omega,by omega⟩
    .exact⟨by omega,by omega⟩
   .have C:=j p;subst C;simp only[f];simp;obtain⟨a,K⟩:∃a:Nat,x.lo=a:=⟨x.lo.toNat,by omega⟩;rw[K];have P:=TF (m:=a) v;have L:((a:Int)*(z:Int))=((a*z:Nat):Int):=by push_cast;rfl
    rw[L];split
    .rename_i s;simp;exact⟨by omega,by omega⟩
    .rename_i s;obtain⟨d,E⟩:∃d:Nat,x.hi-x.lo=d:=⟨(x.hi-x.lo).toNat,by omega⟩;have D:x.hi-(a:Int)=d:=by omega
     rw[D];have M:((d:Int)*((z:Int)+1))=((d*(z+1):Nat):Int):=by push_cast;rfl
     rw[M];have Q:=TF (a:=z+1) (b:=m+1) (m:=d) (by omega);simp;exact⟨by omega,by omega⟩
end PG
namespace PG
open RX(aA)
theorem J6(a b:Int)(x:aD):moved a (moved b x)=moved (a+b) x:=by
 by_cases d:x.op=4
 .simp only[moved,d,if_pos];congr 1<;>omega
 .by_cases e:x.op=5
  .simp only[moved,e,if_neg (show¬(5:Int)=4 by decide),if_pos];congr 1;omega
  .simp only[moved,if_neg d,if_neg e]
theorem MC(x:aD):moved 0 x=x:=by
 unfold moved;split
 .simp
 .split
  .simp
  .rfl
theorem yG(c:List aD):c.map (moved 0)=c:=by
 conv=>rhs;rw[<-List.map_id c]
 exact List.map_congr_left fun x _=>by rw[MC];rfl
theorem QW(a b:Nat)(c:List aD):(c.map (moved b)).map (moved a)=c.map (moved (a+b:Nat)):=by rw[List.map_map];exact List.map_congr_left fun x _=>by show moved a (moved b x)=_;rw[J6];push_cast;rfl
theorem yH(j:Nat):∀(cs:List (List aD))(k:Nat),(fl k cs).map (moved j)=fl (j+k) cs
|[],_=>rfl
|c::cs,k=>by rw[fl,fl,List.map_append,QW,yH j cs,Nat.add_assoc]
theorem ZM(c:List aD):fl 0 [c]=c:=by simp[fl,yG]
def Ip(all:Int):List aD->List (List aD)->List aD
|out,[]=>out
|out,[c]=>out++c.map (moved out.length)
|out,c::d::cs=>Ip all (out++[⟨4,out.length+1,out.length+c.length+2,false,[]⟩]++c.map (moved (out.length+1:Nat))++[⟨5,all,0,false,[]⟩]) (d::cs)
theorem ME(all:Int):∀(cs:List (List aD))(a:List aD),all=a.length+(bB cs).length->Ip all a cs=a++(bB cs).map (moved a.length)
|[],a,_=>by simp[Ip,bB]
|[c],a,_=>rfl
|c::d::cs,a,h=>by
 have e:bB (c::d::cs)=fl 0 [qG (c.length+2) false,c,iJ ((bB (d::cs)).length+1),bB (d::cs)]:=rfl;have f:(bB (c::d::cs)).length=c.length+(bB (d::cs)).length+2:=by rw[e,dG,Bz];simp[qG,iJ];omega
 rw[Ip,ME all (d::cs) _ (by simp only[List.length_append,List.length_map,List.length_cons,List.length_nil];push_cast;omega),e,yH];simp only[fl,qG,iJ,List.length_append,List.length_map,List.length_cons,List.length_nil,List.map_cons,List.map_nil,List.append_assoc,List.append_nil,Nat.add_zero,Nat.zero_add];congr 1;simp only[List.cons_append,List.nil_append];have i:moved (a.length:Int) ⟨4,1,(c.length:Int)+2,false,[]⟩=⟨4,a.length+1,a.length+c.length+2,false,[]⟩:=by simp only[moved,if_pos];congr 1<;>omega
 have j:moved ((a.length+1+c.length:Nat):Int) ⟨5,((bB (d::cs)).length:Int)+1,0,false,[]⟩=⟨5,all,0,false,[]⟩:=by simp only[moved,if_neg (show¬(5:Int)=4 by decide),if_pos];congr 1;rw[h,f];push_cast;omega
 simp only[Bool.false_eq_true,if_false];rw[i,j];simp only[Nat.add_assoc,Nat.add_comm 1]
def sp2(lz:Bool)(on off:Int):aD:=if lz then⟨4,off,on,false,[]⟩else⟨4,on,off,false,[]⟩
def L8(c:List aD):Nat->List aD->List aD
|0,out=>out
|n+1,out=>L8 c n (out++c.map (moved out.length))
def Iq(lz:Bool)(all:Int)(c:List aD):Nat->List aD->List aD
|0,out=>out
|n+1,out=>Iq lz all c n (out++[sp2 lz (out.length+1) all]++c.map (moved (out.length+1:Nat)))
theorem TH(c:List aD):∀(n:Nat)(a:List aD),L8 c n a=a++fl a.length (List.replicate n c)
|0,a=>by simp[L8,fl]
|n+1,a=>by rw[L8,TH c n,List.replicate_succ,fl,List.append_assoc,List.length_append,List.length_map]
theorem qP(k:Nat)(far:Int)(lz:Bool)(a b:Int)(d:a=k+1)(e:b=k+far):(qG far lz).map (moved k)=[sp2 lz a b]:=by
 subst d e;cases lz
 .simp only[qG,sp2,List.map_cons,List.map_nil,moved,Bool.false_eq_true,if_false,if_pos];rw[Int.add_comm 1,Int.add_comm far]
 .simp only[qG,sp2,List.map_cons,List.map_nil,moved,if_pos];rw[Int.add_comm 1,Int.add_comm far]
theorem Pn(lz:Bool)(all:Int)(c:List aD):∀(n:Nat)(a:List aD),all=a.length+(n:Int)*(c.length+1)->Iq lz all c n a=a++(dB c lz n).map (moved a.length)
|0,a,_=>by simp[Iq,dB]
|n+1,a,h=>by
 have d:((n+1:Nat):Int)*((c.length:Int)+1)=(n:Int)*(c.length+1)+(c.length+1):=by push_cast;rw[Int.add_mul,Int.one_mul]
 rw[d]at h;have e:((dB c lz n).length:Int)=(n:Int)*((c.length:Int)+1):=by rw[oG];push_cast;rfl
 rw[Iq,Pn lz all c n _ (by simp only[List.length_append,List.length_map,List.length_cons,List.length_nil];push_cast;omega),dB,yH];simp only[fl,List.length_append,List.length_map,List.append_assoc,List.append_nil,Nat.add_zero];have f:=qP a.length (1+c.length+(dB c lz n).length) lz (a.length+1) all rfl (by rw[h,e];omega);rw[f];simp only[qG,List.length_cons,List.length_nil,Nat.zero_add];rw[show a.length+(1+c.length)=a.length+1+c.length by omega]
def MF(lo hi:Int)(lz:Bool)(c:List aD):List aD:=if hi<0 then L8 c lo.toNat []++[sp2 lz ((L8 c lo.toNat []).length+1) ((L8 c lo.toNat []).length+c.length+2)]++c.map (moved ((L8 c lo.toNat []).length+1:Nat))++[⟨5,(L8 c lo.toNat []).length,0,false,[]⟩]
 else Iq lz ((L8 c lo.toNat []).length+(hi-lo)*(c.length+1)) c (hi-lo).toNat (L8 c lo.toNat [])
theorem Xh(lo hi:Int)(lz:Bool)(c:List aD)(h:hi<0\/lo<=hi):MF lo hi lz c=if hi<0 then fl 0 [nP c lo.toNat,nO c lz]else fl 0 [nP c lo.toNat,dB c lz (hi-lo).toNat]:=by
 have e:L8 c lo.toNat []=nP c lo.toNat:=by rw[TH];rfl
 unfold MF;rw[e];generalize nP c lo.toNat=o;have d:∀a b:List aD,fl 0 [a,b]=a++b.map (moved (a.length:Nat)):=fun a b=>by simp only[fl,List.append_nil,Nat.zero_add];rw[show((0:Nat):Int)=0 from rfl,yG]
 split
 .rw[d,nO,yH];simp only[fl,List.append_nil,Nat.add_zero,List.append_assoc];have f:=qP o.length (c.length+2) lz (o.length+1) (o.length+c.length+2) rfl (by omega);rw[f];have i:(iJ (-(c.length:Int)-1)).map (moved ((o.length+(qG ((c.length:Int)+2) lz).length+c.length:Nat):Int))=[⟨5,o.length,0,false,[]⟩]:=by simp only[iJ,qG,List.map_cons,List.map_nil,moved,if_neg (show¬(5:Int)=4 by decide),if_pos,List.length_cons,List.length_nil];congr 2;push_cast;omega
  rw[i];simp only[qG,List.length_cons,List.length_nil,Nat.zero_add]
 .rw[Pn _ _ _ _ _ (by rw[Int.toNat_of_nonneg (by omega)]),d]
def cat:List aD->List (List aD)->List aD
|out,[]=>out
|out,c::cs=>cat (out++c.map (moved out.length)) cs
theorem Ir:∀(cs:List (List aD))(a:List aD),cat a cs=a++fl a.length cs
|[],a=>by simp[cat,fl]
|c::cs,a=>by rw[cat,Ir cs,fl,List.append_assoc,List.length_append,List.length_map]
theorem Iu(cs:List (List aD)):cat [] cs=fl 0 cs:=by rw[Ir];rfl
theorem Xi(x:Int)(c:List aD):cat (iS x) [c]++iS (x+1)=fl 0 [iS x,c,iS (x+1)]:=by rw[Ir];simp only[fl,iS,List.append_nil,List.append_assoc];rfl
def Tb(n:Nat)(c:List aD):Prop:=∀x∈c,(x.op=4->0<=x.x/\x.x<=n/\0<=x.y/\x.y<=n)/\(x.op=5->0<=x.x/\x.x<=n)
theorem Tb.mono{n m:Nat}{c:List aD}(h:Tb n c)(f:n<=m):Tb m c:=fun x a=>by have:=h x a;exact⟨fun d=>by have:=this.1 d;omega,fun e=>by have:=this.2 e;omega⟩
theorem qy(n:Nat):Tb n []:=by intro x a;cases a
theorem Tb.app{n:Nat}{c d:List aD}(h:Tb n c)(e:Tb n d):Tb n (c++d):=fun x f=>by
 rcases List.mem_append.1 f with a|a
 .exact h x a
 .exact e x a
theorem Tb.Cr{n k m:Nat}{c:List aD}(h:Tb n c)(i:k+n<=m):Tb m (c.map (moved k)):=fun y e=>by
 obtain⟨x,f,rfl⟩:=List.mem_map.1 e;have:=h x f;refine⟨fun a=>?_,fun d=>?_⟩
 .rw[gI]at a;have:=this.1 a;simp only[moved,if_pos a];omega
 .rw[gI]at d;have:=this.2 d;simp only[moved,if_neg (show¬x.op=4 by omega),if_pos d];omega
theorem qz{n:Nat}{x:aD}(h:(x.op=4->0<=x.x/\x.x<=n/\0<=x.y/\x.y<=n)/\(x.op=5->0<=x.x/\x.x<=n)):Tb n [x]:=by intro y a;simp at a;subst a;exact h
theorem Gw:∀(cs:List (List aD))(k m:Nat),(∀c∈cs,Tb c.length c)->k+lens cs<=m->Tb m (fl k cs)
|[],_,m,_,_=>qy m
|c::cs,k,m,h,e=>by have f:lens (c::cs)=c.length+lens cs:=rfl;exact((h c (by simp)).Cr (by omega)).app (Gw cs (k+c.length) m (fun d a=>h d (by simp[a])) (by omega))
theorem CS(x:Int)(n:Nat):Tb n (iS x):=qz ⟨fun h=>absurd h (show¬(3:Int)=4 by decide),fun h=>absurd h (show¬(3:Int)=5 by decide)⟩
theorem zU{n:Nat}(lz:Bool){a b:Int}(d:0<=a/\a<=n)(e:0<=b/\b<=n):Tb n [sp2 lz a b]:=by
 cases lz
 .exact qz ⟨fun _=>⟨d.1,d.2,e.1,e.2⟩,fun h=>absurd h (show¬(4:Int)=5 by decide)⟩
 .exact qz ⟨fun _=>⟨e.1,e.2,d.1,d.2⟩,fun h=>absurd h (show¬(4:Int)=5 by decide)⟩
theorem CU{n:Nat}{a:Int}(d:0<=a/\a<=n):Tb n [⟨5,a,0,false,[]⟩]:=qz ⟨fun h=>absurd h (show¬(5:Int)=4 by decide),fun _=>d⟩
theorem TI:∀(cs:List (List aD))(e:List aD)(m:Nat),(∀c∈cs,Tb c.length c)->Tb m e->m=e.length+(bB cs).length->Tb m (Ip m e cs)
|[],e,m,_,f,_=>f
|[c],e,m,h,f,i=>f.app ((h c (by simp)).Cr (by rw[i];exact Nat.le_refl _))
|c::d::cs,e,m,h,f,i=>by
 have k:bB (c::d::cs)=fl 0 [qG (c.length+2) false,c,iJ ((bB (d::cs)).length+1),bB (d::cs)]:=rfl;have p:(bB (c::d::cs)).length=c.length+(bB (d::cs)).length+2:=by rw[k,dG,Bz];simp[qG,iJ];omega
 rw[Ip];refine TI (d::cs) _ m (fun x j=>h x (by simp at j⊢;exact .inr j)) ?_ (by simp only[List.length_append,List.length_map,List.length_cons,List.length_nil];omega);exact((f.app (zU false (a:=e.length+1) (b:=e.length+c.length+2) (by omega) (by omega))).app ((h c (by simp)).Cr (by omega))).app (CU (by omega))
theorem QX(cs:List (List aD))(h:∀c∈cs,Tb c.length c):Tb (bB cs).length (bB cs):=by have a:=TI cs [] (bB cs).length h (qy _) (by simp);rw[ME _ cs [] (by simp)]at a;simp only[List.nil_append,List.length_nil]at a;rwa[show((0:Nat):Int)=0 from rfl,yG]at a
theorem J7(c:List aD)(lz:Bool)(h:Tb c.length c):∀n,Tb (dB c lz n).length (dB c lz n)
|0=>qy _
|n+1=>by
 have a:=J7 c lz h n;have d:(dB c lz (n+1)).length=1+c.length+(dB c lz n).length:=by rw[dB,dG,uq];simp[qG];omega
 rw[d,dB];simp only[fl,List.append_nil];have e:=qP 0 (1+c.length+(dB c lz n).length) lz 1 (1+c.length+(dB c lz n).length) rfl (by omega);rw[e];refine(zU lz (by omega) (by omega)).app ((h.Cr ?_).app (a.Cr ?_))
 .simp[qG]
 .simp[qG]
theorem Xj(c:List aD)(lz:Bool)(h:Tb c.length c):Tb (nO c lz).length (nO c lz):=by
 have a:(nO c lz).length=c.length+2:=by rw[nO,dG,uq];simp[qG,iJ];omega
 rw[a,nO];simp only[fl,List.append_nil];have d:=qP 0 (c.length+2) lz 1 (c.length+2) rfl (by omega);rw[d];refine(zU lz (by omega) (by omega)).app ((h.Cr ?_).app ?_)
 .simp[qG];omega
 .have e:(iJ (-(c.length:Int)-1)).map (moved ((0+(qG ((c.length:Int)+2) lz).length+c.length:Nat):Int))=[⟨5,0,0,false,[]⟩]:=by simp only[iJ,qG,List.map_cons,List.map_nil,moved,if_neg (show¬(5:Int)=4 by decide),if_pos,List.length_cons,List.length_nil];congr 2;push_cast;omega
  rw[e];exact CU (by omega)
theorem Po(c:List aD)(h:Tb c.length c)(n:Nat):Tb (nP c n).length (nP c n):=by unfold nP;rw[dG];exact Gw _ 0 _ (fun d a=>by rw[List.eq_of_mem_replicate a];exact h) (by omega)
theorem Xk{cs:List (List aD)}(h:∀c∈cs,Tb c.length c):Tb (cs.headD []).length (cs.headD []):=by
 cases cs with
 |nil=>exact qy _
 |cons c cs=>exact h c (by simp)
theorem Xl(x:aA)(cs:List (List aD))(h:∀c∈cs,Tb c.length c):Tb (nQ x cs).length (nQ x cs):=by
 have d:=Xk h;unfold nQ;split
 .rw[dG];exact Gw _ 0 _ h (by omega)
 split
 .exact QX cs h
 split
 .exact qz ⟨fun h=>absurd h (show¬(0:Int)=4 by decide),fun h=>absurd h (show¬(0:Int)=5 by decide)⟩
 split
 .exact qz ⟨fun h=>absurd h (show¬(1:Int)=4 by decide),fun h=>absurd h (show¬(1:Int)=5 by decide)⟩
 split
 .exact qz ⟨fun h=>absurd h (show¬(2:Int)=4 by decide),fun h=>absurd h (show¬(2:Int)=5 by decide)⟩
 split
 .split
  .rw[dG];refine Gw _ 0 _ (fun c a=>?_) (by omega);simp at a;rcases a with rfl|rfl|rfl
   .exact CS _ _
   .simpa using d
   .exact CS _ _
  .exact d
 split
 .rw[dG];refine Gw _ 0 _ (fun c a=>?_) (by omega);simp at a;rcases a with rfl|rfl
  .exact Po _ (by simpa using d) _
  .exact Xj _ _ (by simpa using d)
 .rw[dG];refine Gw _ 0 _ (fun c a=>?_) (by omega);simp at a;rcases a with rfl|rfl
  .exact Po _ (by simpa using d) _
  .exact J7 _ _ (by simpa using d) _
theorem Pp:∀(n:Nat)(l:List aA),Tb (kX n l).length (kX n l)
|0,_=>qy _
|_+1,[]=>qy _
|n+1,x::r=>by rw[kX];refine Xl x _ (fun c a=>?_);obtain⟨l,_,rfl⟩:=List.mem_map.1 a;exact Pp n l
def pM(x:aA)(z:Int)(cs:List (List aD)):List aD:=if x.kind=1 then Ip z [] cs else nQ x cs
def iA:Nat->List aA->List aD
|0,_=>[]
|_+1,[]=>[]
|n+1,x::r=>pM x (xq (n+1) (x::r)) ((kids r.length r).map (iA n))
theorem CW(all:Int):∀(cs:List (List aD))(a:List aD),(Ip all a cs).length=a.length+(bB cs).length
|[],a=>by simp[Ip,bB]
|[c],a=>by simp[Ip,bB]
|c::d::cs,a=>by rw[Ip,CW all (d::cs),bB,dG,Bz];simp[qG,iJ];omega
theorem QZ(x:aA)(z:Int)(cs:List (List aD)):(pM x z cs).length=oH x (cs.map List.length):=by
 unfold pM;split
 .rename_i h;rw[CW,<-vG];unfold nQ;rw[if_neg (by omega),if_pos h];simp
 .exact vG x cs
theorem vH:∀(n:Nat)(l:List aA),(iA n l).length=gH n l
|0,_=>rfl
|_+1,[]=>rfl
|n+1,x::r=>by rw[iA,gH,QZ,List.map_map];congr 1;exact List.map_congr_left fun l _=>vH n l
theorem yI{e:Int}{x:aA}{a:List (List aA)}{n:Nat}(h:∀k∈a,Tree e k):iA (n+1) (x::a.flatten)=pM x (xq (n+1) (x::a.flatten)) (a.map (iA n)):=by rw[iA,lX a _ h (Nat.le_refl _)]
theorem J8:∀{d:List Nat}{a:Nat},a∈d->a<=lH d
|b::d,a,h=>by
 have e:lH (b::d)=b+lH d:=rfl;rcases List.mem_cons.1 h with rfl|h
 .omega
 .have:=J8 h;omega
theorem TQ{e:Int}{t:List aA}(h:Tree e t):∀n,t.length<=n->gH n t<=50000->iA n t=kX n t:=by
 induction h with
 |mk e x i C z j D=>
  intro n E d;have F:=Tree.mk e x i C z j;have r:(x::i.flatten).length=i.flatten.length+1:=List.length_cons;obtain⟨n,rfl⟩:∃m,n=m+1:=⟨n-1,by omega⟩;have u:∀k∈i,k.length<=n:=fun k a=>by have:=fG a;omega
  have A:=(Pm F (n+1) E);rw[yI j,J5 j];have G:=d;rw[Pj j]at d;have f:(∀k∈i,gH n k<=50000)->i.map (iA n)=i.map (kX n):=fun h=>List.map_congr_left fun k a=>D k a n (u k a) (h k a);have p:∀k∈i,gH n k<=lH (i.map (gH n)):=fun k a=>J8 (List.mem_map.2 ⟨k,a,rfl⟩);obtain⟨-,a⟩:=z;rcases a with a|⟨a,r⟩|⟨a,r⟩|⟨a,r⟩|⟨a,r,J⟩
  .unfold oH at d;rw[if_pos a]at d;rw[f fun k a=>Nat.le_trans (p k a) d];unfold pM;rw[if_neg (by omega)]
  .unfold oH at d;rw[if_neg (by omega),if_pos a]at d;rw[f fun k a=>Nat.le_trans (p k a) (by omega)];have v:xq (n+1) (x::i.flatten)=(gH (n+1) (x::i.flatten):Nat):=by have:=A.1;have:=A.2;omega
   unfold pM nQ;rw[if_pos a,if_neg (by omega),if_pos a,v,ME _ _ [] (by rw[<-vF,J5 j];unfold nQ;rw[if_neg (by omega),if_pos a];simp)];simp only[List.nil_append,List.length_nil];rw[show((0:Nat):Int)=0 from rfl,yG]
  .subst r;unfold pM;rw[if_neg (by omega)];rfl
  .obtain⟨k,rfl⟩:=List.length_eq_one_iff.1 r;have w:gH n k<=50000:=by unfold oH at d;rw[if_neg (by omega),if_neg (by omega),if_neg (by omega),if_neg (by omega),if_neg (by omega),if_pos a]at d;have e:([k].map (gH n)).headD 0=gH n k:=rfl;rw[e]at d;split at d<;>omega
   rw[f fun q s=>by simp at s;subst s;exact w];unfold pM;rw[if_neg (by omega)]
  .obtain⟨k,rfl⟩:=List.length_eq_one_iff.1 r;unfold pM;rw[if_neg (by omega)];unfold oH at d;rw[if_neg (by omega),if_neg (by omega),if_neg (by omega),if_neg (by omega),if_neg (by omega),if_neg (by omega)]at d;have e:([k].map (gH n)).headD 0=gH n k:=rfl;rw[e]at d;by_cases w:gH n k<=50000
   .rw[f fun q s=>by simp at s;subst s;exact w]
   .split at d
    .omega
    .rename_i B;have H:(x.hi-x.lo).toNat=0:=by
      rcases Nat.eq_zero_or_pos (x.hi-x.lo).toNat with h|h
      .exact h
      .have:=Nat.mul_le_mul h (Nat.le_refl (gH n k+1));omega
     have I:x.lo.toNat=0:=by
      rcases Nat.eq_zero_or_pos x.lo.toNat with h|h
      .exact h
      .have:=Nat.mul_le_mul h (Nat.le_refl (gH n k));omega
     unfold nQ;rw[if_neg (by omega),if_neg (by omega),if_neg (by omega),if_neg (by omega),if_neg (by omega),if_neg (by omega),if_neg B,if_neg (by omega),if_neg (by omega),if_neg (by omega),if_neg (by omega),if_neg (by omega),if_neg (by omega),if_neg B,H,I];rfl
def xM(B:Nat):Nat->List aA->Prop
|0,_=>True
|_+1,[]=>True
|n+1,x::r=>gH (n+1) (x::r)<=B/\∀k∈kids r.length r,xM B n k
theorem kH{B a:Nat}(d:B<=a):∀(n:Nat)(l:List aA),xM B n l->xM a n l
|0,_,_=>trivial
|_+1,[],_=>trivial
|n+1,_::_,h=>⟨Nat.le_trans h.1 d,fun k e=>kH d n k (h.2 k e)⟩
theorem Pw{B:Nat}{e:Int}{x:aA}{a:List (List aA)}{n:Nat}(h:∀k∈a,Tree e k)(f:xM B (n+1) (x::a.flatten)):gH (n+1) (x::a.flatten)<=B/\∀k∈a,xM B n k:=by obtain⟨i,d⟩:=f;rw[lX a _ h (Nat.le_refl _)]at d;exact⟨i,d⟩
theorem Px{B n:Nat}{t:List aA}(h:xM B n t):(iA n t).length<=B:=by
 rw[vH];match n,t,h with
 |0,_,_=>exact Nat.zero_le _
 |_+1,[],_=>exact Nat.zero_le _
 |_+1,_::_,h=>exact h.1
end PG
namespace RX
def scT:List Nat:=[0,2,4,6,10,18,36,54,72,108,180,342,504,666,990,1638,3096,4554,6012,8928,14760,27882,41004,54126,80370,132858,250956,369054,487152,723348,1195740,2258622,3321504,4384386,6510150,10761678,20327616,29893554,39459492,58591368,96855120,182948562,269042004,355135446,527322330,871696098,1646537076,2421378054,3196219032,4745900988,7845264900,14818833702,21792402504,28765971306,42713108910,70607384118,133369503336,196131622554,258893741772,384417980208,635466457080]
def sc(n:Nat):Nat:=(scT[n]?).getD 635466457080
theorem MR{n:Nat}(h:61<=n):sc n=635466457080:=by unfold sc;rw[List.getElem?_eq_none (show scT.length<=n from h)];rfl
def ga(a:Nat):Nat:=if a<2 then 1 else sc (a-2)+2
theorem Xx:∀n,sc n<=sc (n+1):=by
 intro n;rcases Nat.lt_or_ge n 61 with h|h
 .exact(show∀i:Fin 61,sc i<=sc (i+1)by decide+kernel) ⟨n,h⟩
 .rw[MR h,MR (show 61<=n+1 by omega)];exact Nat.le_refl _
theorem pO{a b:Nat}(h:a<=b):sc a<=sc b:=by
 induction h with
 |refl=>exact Nat.le_refl _
 |step _ d=>exact Nat.le_trans d (Xx _)
theorem ZZ{a b:Nat}(h:a+b<=60):sc a+sc b<=sc (a+b):=by have:=(show∀i:Fin 61,∀j:Fin 61,(i:Nat)+j<=60->sc i+sc j<=sc (i+j)by decide+kernel) ⟨a,by omega⟩ ⟨b,by omega⟩ h;exact this
theorem Z0{a b:Nat}(h:a+b+1<=60):sc a+sc b+2<=sc (a+b+1):=by have:=(show∀i:Fin 61,∀j:Fin 61,(i:Nat)+j+1<=60->sc i+sc j+2<=sc (i+j+1)by decide+kernel) ⟨a,by omega⟩ ⟨b,by omega⟩ h;exact this
theorem Xy{a:Nat}(d:1<=a)(h:a<=60):ga a<=sc a/\(a+1<=60->2*ga a+2<=sc (a+1))/\(a+3<=60->9*ga a<=sc (a+3))/\(a+4<=60->10*ga a+2<=sc (a+4))/\(a+5<=60->9*ga a+9<=sc (a+5)):=by have:=(show∀i:Fin 61,1<=(i:Nat)->ga i<=sc i/\((i:Nat)+1<=60->2*ga i+2<=sc (i+1))/\((i:Nat)+3<=60->9*ga i<=sc (i+3))/\((i:Nat)+4<=60->10*ga i+2<=sc (i+4))/\((i:Nat)+5<=60->9*ga i+9<=sc (i+5))by decide+kernel) ⟨a,by omega⟩ d;exact this
theorem xP(a:Nat):1<=ga a:=by unfold ga;split<;>omega
mutual
 inductive Zc:List aA->Nat->Prop
|leaf(x:aA)(m:Nat):x.deep=0->(x.kind=2\/x.kind=3\/x.kind=4)->1<=m->Zc [x] m
|seq(x:aA)(ls:List (List aA))(n m:Nat):x.deep=0->x.kind=0->Ma ls n->n<=m->Zc (under x ls) m
|alt(x:aA)(ls:List (List aA))(n m:Nat):x.deep=0->x.kind=1->Ma ls n->n+2*(ls.length-1)<=m->Zc (under x ls) m
|mP(x:aA)(l:List aA)(n m:Nat):x.deep=0->x.kind=5->Zc l n->n+2<=m->Zc (under x [l]) m
|rep(x:aA)(l:List aA)(n m:Nat):x.deep=0->x.kind=6->Zc l n->n<=m->PG.oH x [n]<=m->Zc (under x [l]) m
 inductive Ma:List (List aA)->Nat->Prop
|nil:Ma [] 0
|cons(l:List aA)(ls:List (List aA))(a b:Nat):Zc l a->Ma ls b->Ma (l::ls) (a+b)
end
theorem Zc.mono{l:List aA}{n m:Nat}(h:Zc l n)(j:n<=m):Zc l m:=by
 cases h with
 |leaf x _ a d e=>exact .leaf x m a d (by omega)
 |seq x f k _ a d e i=>exact .seq x f k m a d e (by omega)
 |alt x f k _ a d e i=>exact .alt x f k m a d e (by omega)
 |mP x l k _ a d e i=>exact .mP x l k m a d e (by omega)
 |rep x l k _ a d e i p=>exact .rep x l k m a d e (by omega) (by omega)
theorem Ma.snoc:∀{ls:List (List aA)}{a b:Nat}{l:List aA},Ma ls a->Zc l b->Ma (ls++[l]) (a+b)
|_,_,b,l,.nil,e=>by have:=Ma.cons l [] b 0 e .nil;rwa[Nat.add_zero,<-Nat.zero_add b]at this
|_,_,b,l,.cons m f c d h i,e=>by have:=Ma.cons m (f++[l]) c (d+b) h (Ma.snoc i e);rwa[<-Nat.add_assoc]at this
theorem MS{l:List aA}{n:Nat}(h:Zc l n):FX l:=Zc.rec (motive_1:=fun l _ _=>FX l) (motive_2:=fun i _ _=>∀l∈i,FX l)
 (fun x _ a _ _=>⟨x,[],rfl,a,by simp⟩)
 (fun _ _ _ _ a _ _ _ d=>ou a d)
 (fun _ _ _ _ a _ _ _ d=>ou a d)
 (fun _ _ _ _ a _ _ _ d=>ou a (by intro m e;simp at e;subst e;exact d))
 (fun _ _ _ _ a _ _ _ _ d=>ou a (by intro m e;simp at e;subst e;exact d))
 (by simp)
 (fun _ _ _ _ _ _ d f=>by
 intro m e;rcases List.mem_cons.1 e with rfl|e
 .exact d
 .exact f m e) h
theorem IE:∀{ls:List (List aA)}{n:Nat},Ma ls n->∀l∈ls,FX l
|[],_,_=>by simp
|l::ls,_,.cons _ _ a b h e=>by
 intro m d;rcases List.mem_cons.1 d with rfl|d
 .exact MS h
 .exact IE e m d
theorem GA{e:Int}:∀(d:List (List aA))(n:Nat),(∀k∈d,FX k)->(d.map (List.map (lift e))).flatten.length<=n->PG.kids n (d.map (List.map (lift e))).flatten=d.map (List.map (lift e))
|[],n,_,_=>PG.DC n
|k::d,n,h,i=>by
 obtain⟨t,r,rfl,A,v⟩:=h k (by simp);rw[List.map_cons,List.flatten_cons,List.map_cons,List.cons_append]at i⊢;cases n with
 |zero=>simp at i
 |succ n=>have j:=PG.j4 (p:=fun y:aA=>decide ((lift e t).deep<y.deep)) (a:=r.map (lift e)) (b:=(d.map (List.map (lift e))).flatten) (fun x f=>by obtain⟨y,w,rfl⟩:=List.mem_map.1 f;have:=v y w;exact decide_eq_true (by show t.deep+e<y.deep+e;omega)) (fun x s f=>by cases d with|nil=>simp at f|cons m d=>obtain⟨u,q,rfl,B,-⟩:=h m (by simp);rw[List.map_cons,List.map_cons,List.flatten_cons,List.cons_append]at f;injection f with f _;rw[<-f];exact decide_eq_false (by show¬(t.deep+e<u.deep+e);omega));rw[PG.kids,j.1,j.2,GA d n (fun m z=>h m (by simp[z])) (by simp at i⊢;omega)]
theorem yL{x:aA}(a:x.kind=6)(g:Nat):PG.oH x [g]=if x.hi<0 then x.lo.toNat*g+g+2 else x.lo.toNat*g+(x.hi-x.lo).toNat*(g+1):=by unfold PG.oH;rw[if_neg (by omega),if_neg (by omega),if_neg (by omega),if_neg (by omega),if_neg (by omega),if_neg (by omega)];rfl
theorem Ua{x:aA}{a b:Nat}(d:x.kind=6)(h:a<=b):PG.oH x [a]<=PG.oH x [b]:=by rw[yL d,yL d];have e:=Nat.mul_le_mul (Nat.le_refl x.lo.toNat) h;have f:=Nat.mul_le_mul (Nat.le_refl (x.hi-x.lo).toNat) (show a+1<=b+1 by omega);split<;>omega
theorem Q8(e:Int)(x:aA)(ls:List (List aA)):(under x ls).map (lift e)=lift e x::(ls.map (List.map (lift (e+1)))).flatten:=by rw[jy,List.map_flatten]
theorem vL{e:Int}{x:aA}{ls:List (List aA)}(f:∀l∈ls,FX l)(n:Nat):PG.gH (n+1) ((under x ls).map (lift e))=PG.oH x (ls.map fun l=>PG.gH n (l.map (lift (e+1))))/\∀{B:Nat},PG.oH x (ls.map fun l=>PG.gH n (l.map (lift (e+1))))<=B->(∀l∈ls,PG.xM B n (l.map (lift (e+1))))->PG.xM B (n+1) ((under x ls).map (lift e)):=by
 rw[Q8];have a:=GA (e:=e+1) ls (ls.map (List.map (lift (e+1)))).flatten.length f (Nat.le_refl _);have d:PG.gH (n+1) (lift e x::(ls.map (List.map (lift (e+1)))).flatten)=PG.oH x (ls.map fun l=>PG.gH n (l.map (lift (e+1)))):=by rw[PG.gH,a,List.map_map];rfl
 refine⟨d,fun h i=>⟨by rw[d];exact h,?_⟩⟩;rw[a];intro k a;obtain⟨l,j,rfl⟩:=List.mem_map.1 a;exact i l j
theorem DN{B n:Nat}{t:List aA}(h:PG.xM B n t):PG.gH n t<=B:=by
 match n,t,h with
 |0,_,_=>exact Nat.zero_le _
 |_+1,[],_=>exact Nat.zero_le _
 |_+1,_::_,h=>exact h.1
theorem Xz{l:List aA}{k:Nat}(h:Zc l k):∀(n:Nat)(e:Int),PG.xM k n (l.map (lift e)):=Zc.rec (motive_1:=fun l k _=>∀(n:Nat)(e:Int),PG.xM k n (l.map (lift e))) (motive_2:=fun ls k _=>∀(n:Nat)(e:Int),(∀l∈ls,PG.xM k n (l.map (lift e)))/\PG.lH (ls.map fun l=>PG.gH n (l.map (lift e)))<=k)
 (fun x m s d p n e=>by
 cases n with
 |zero=>trivial
 |succ n=>
  refine⟨?_,by intro k d;simp[PG.kids]at d⟩;show PG.oH (lift e x) _<=m;unfold PG.oH;have d:(lift e x).kind=2\/(lift e x).kind=3\/(lift e x).kind=4:=d;rw[if_neg (by omega),if_neg (by omega)];split
  .exact p
  split
  .exact p
  split
  .exact p
  .omega)
 (fun x ls a m s d h f i n e=>by cases n with|zero=>trivial|succ n=>have hi:=i n (e+1);refine(vL (IE h) n).2 ?_ fun l t=>PG.kH (by omega) _ _ (hi.1 l t);unfold PG.oH;rw[if_pos d];exact Nat.le_trans hi.2 f)
 (fun x ls a m s d h f i n e=>by cases n with|zero=>trivial|succ n=>have hi:=i n (e+1);refine(vL (IE h) n).2 ?_ fun l t=>PG.kH (by omega) _ _ (hi.1 l t);unfold PG.oH;rw[if_neg (by omega),if_pos d,List.length_map];exact Nat.le_trans (Nat.add_le_add_right hi.2 _) f)
 (fun x l a m s d h f i n e=>by
 cases n with
 |zero=>trivial
 |succ n=>
  have hi:=i n (e+1);refine(vL (ls:=[l]) (by intro m j;simp at j;subst j;exact MS h) n).2 ?_ fun q r=>by simp at r;subst r;exact PG.kH (by omega) _ _ hi
  unfold PG.oH;rw[if_neg (by omega),if_neg (by omega),if_neg (by omega),if_neg (by omega),if_neg (by omega),if_pos d];have:=DN hi;show(if 0<x.lo then PG.gH n (l.map (lift (e+1)))+2 else PG.gH n (l.map (lift (e+1))))<=m;split<;>omega)
 (fun x l a m s d h f v i n e=>by cases n with|zero=>trivial|succ n=>have hi:=i n (e+1);exact(vL (ls:=[l]) (by intro m j;simp at j;subst j;exact MS h) n).2 (Nat.le_trans (Ua d (DN hi)) v) fun q r=>by simp at r;subst r;exact PG.kH f _ _ hi)
 (fun _ _=>⟨by simp,Nat.le_refl _⟩)
 (fun l ls a b h w i u n e=>by
 have p:=i n e;have f:=u n e;refine⟨fun m j=>?_,?_⟩
 .rcases List.mem_cons.1 j with rfl|j
  .exact PG.kH (by omega) _ _ p
  .exact PG.kH (by omega) _ _ (f.1 m j)
 .have:=DN p;have:=f.2;show PG.gH n (l.map (lift e))+PG.lH (ls.map fun l=>PG.gH n (l.map (lift e)))<=a+b;omega) h
section
variable{s:List Int}
theorem PI{st:St}(h:(must s st).2.ok=true):st.ok=true/\(must s st).2.at_=st.at_+1:=by
 unfold must at h⊢;split at h
 .rw[St.aW _ (by decide)]at h;cases h
 .rename_i a;rw[if_neg a];exact⟨h,rfl⟩
theorem XA{st:St}{lo:Int}(h:(high s lo st).2.ok=true):st.ok=true/\(((high s lo st).1=lo/\(high s lo st).2.at_=st.at_)\/((high s lo st).1<0/\(high s lo st).2.at_=st.at_+1)\/(high s lo st).2.at_=st.at_+2):=by
 unfold high at h⊢;split at h
 .rename_i a;rw[if_pos a];split at h
  .rename_i d;rw[if_pos d];have:=PI h;exact⟨a.1,.inr (.inr (by rw[this.2];rfl))⟩
  .rename_i d;rw[if_neg d];exact⟨a.1,.inr (.inl ⟨show(-1:Int)<0 by decide,rfl⟩)⟩
 .rename_i a;rw[if_neg a];exact⟨h,.inl ⟨rfl,rfl⟩⟩
theorem Q9{st:St}(h:(bounds s st).2.2.ok=true):((bounds s st).2.1=(bounds s st).1/\st.at_+3<=(bounds s st).2.2.at_)\/((bounds s st).2.1<0/\st.at_+4<=(bounds s st).2.2.at_)\/st.at_+5<=(bounds s st).2.2.at_:=by
 have i:=PI (s:=s) (st:=st.bump 1);have e:=XA (s:=s) (lo:=(must s (st.bump 1)).1) (st:=(must s (st.bump 1)).2);unfold bounds at h⊢;simp only at h⊢;generalize high s (must s (st.bump 1)).1 (must s (st.bump 1)).2=b at h e⊢;generalize must s (st.bump 1)=a at h i e⊢;have j:(if b.2.ok=true/\aR s b.2 0≠125 then b.2.fail 5 b.2.at_ else b.2).ok=true->b.2.ok=true:=by
  intro h;split at h
  .rw[St.aW _ (by decide)]at h;cases h
  .exact h
 have d:(if b.2.ok=true/\aR s b.2 0≠125 then b.2.fail 5 b.2.at_ else b.2).at_=b.2.at_:=by
  split
  .exact St.jK _ _ _
  .rfl
 generalize(if b.2.ok=true/\aR s b.2 0≠125 then b.2.fail 5 b.2.at_ else b.2)=q at h j d⊢;split at h
 .rw[St.aW _ (by decide)]at h;cases h
 .rename_i p;rw[if_neg p];have k:=e (j h);have t:=i k.1;have u:(st.bump 1).at_=st.at_+1:=rfl;have r:(q.bump 1).at_=q.at_+1:=rfl;rw[r,d];rcases k.2 with⟨f,m⟩|⟨f,m⟩|m
  .exact .inl ⟨f,by omega⟩
  .exact .inr (.inl ⟨f,by omega⟩)
  .exact .inr (.inr (by omega))
theorem Ra{st a:St}{lo hi:Int}(h:eP s st=some (lo,hi,a))(f:a.ok=true):(st.at_+1<=a.at_/\((hi<0/\lo<=1)\/(lo=0/\hi=1)))\/(hi=lo/\st.at_+3<=a.at_)\/(hi<0/\st.at_+4<=a.at_)\/st.at_+5<=a.at_:=by
 unfold eP at h;simp only at h;split at h;rotate_left;focus
  split at h;rotate_left
  .split at h
   .injection h with h;injection h with d h;injection h with e h;subst h d e;exact .inl ⟨Nat.le_refl _,.inr ⟨rfl,rfl⟩⟩
   .split at h
    .injection h with h;injection h with d h;injection h with e h;subst h d e;exact .inr (Q9 f)
    .cases h
 rotate_left;all_goals
  injection h with h;injection h with d h;injection h with e h;subst h d e;exact .inl ⟨Nat.le_refl _,.inl ⟨by decide,by decide⟩⟩
theorem MU{st:St}{e:List aA}{a:Nat}(h:Zc e (ga a))(F:1<=a)(f:(cK s e st).2.ok=true)(j:a+((cK s e st).2.at_-st.at_)<=60):Zc (cK s e st).1 (sc (a+((cK s e st).2.at_-st.at_))):=by
 obtain⟨r0,r1,D,t,E⟩:=Xy F (by omega);unfold cK at f j⊢;rcases u:eP s st with _|⟨lo,hi,d⟩
 .exact h.mono (Nat.le_trans r0 (pO (Nat.le_add_right _ _)))
 .rw[u]at f j;simp only at f j⊢;have k:d.ok=true:=by split at f<;>exact f
  have v:=Ra u k;have w:=GD u;have z:d.at_<=(if(d.ok&&decide (aR s d 0=63))=true then d.bump 1 else d).at_:=by
   split
   .exact Nat.le_add_right _ _
   .exact Nat.le_refl _
  generalize(if(d.ok&&decide (aR s d 0=63))=true then d.bump 1 else d)=i at f j z⊢;obtain⟨G,O,H⟩:=w;have I:=xP a;generalize ga a=g at h r0 r1 D t E I;have J:=pO (show a<=a+(i.at_-st.at_)by omega);refine .rep _ _ g _ rfl rfl h (by omega) ?_;rw[yL (by rfl)];show(if hi<0 then lo.toNat*g+g+2 else lo.toNat*g+(hi-lo).toNat*(g+1))<=_;have K:=Nat.mul_le_mul (show lo.toNat<=9 by omega) (Nat.le_refl g);rcases v with⟨m,p⟩|⟨m,p⟩|⟨m,p⟩|p
  .have A:=pO (show a+1<=a+(i.at_-st.at_)by omega);have B:=r1 (by omega);rcases p with⟨r,C⟩|⟨r,C⟩
   .rw[if_pos r];have:=Nat.mul_le_mul (show lo.toNat<=1 by omega) (Nat.le_refl g);omega
   .rw[if_neg (by omega),r,C];show 0*g+1*(g+1)<=_;omega
  .have A:=pO (show a+3<=a+(i.at_-st.at_)by omega);have B:=D (by omega);rw[if_neg (by omega),m,show(lo-lo).toNat=0 by omega];omega
  .have A:=pO (show a+4<=a+(i.at_-st.at_)by omega);have B:=t (by omega);rw[if_pos m];omega
  .have A:=pO (show a+5<=a+(i.at_-st.at_)by omega);have B:=E (by omega);have r:=pO (show a+4<=a+(i.at_-st.at_)by omega);have C:=t (by omega);split
   .omega
   .rename_i P;have Q:lo.toNat*g+(hi-lo).toNat*(g+1)<=(lo.toNat+(hi-lo).toNat)*(g+1):=by rw[Nat.add_mul];have:=Nat.mul_le_mul (Nat.le_refl lo.toNat) (show g<=g+1 by omega);omega
    rcases Int.lt_or_le hi lo with L|M
    .rw[show(hi-lo).toNat=0 by omega];omega
    .have N:=Nat.mul_le_mul (show lo.toNat+(hi-lo).toNat<=9 by omega) (Nat.le_refl (g+1));omega
def BB(s:List Int)(alt:St->List aA×St)(o:Nat):Prop:=∀st:St,st.op=o->st.ok=true->st.at_<=s.length->st.aC<=9->(alt st).2.ok=true->Zc (alt st).1 (sc ((alt st).2.at_-st.at_))
variable{c o:Nat}{d:Int}{alt:St->List aA×St}
theorem DR{n:Int}{st:St}(f:BB s alt (o+1))(w:st.op=o)(j:dV s c d alt)(h:st.ok=true)(p:st.at_<=s.length)(t:st.aC<=9)(a:(dU s alt n st).2.ok=true)(T:Nat)(i:(dU s alt n st).2.at_-st.at_+1<=T):Zc (dU s alt n st).1 (ga T):=by
 have u:=f {st with op:=st.op+1} (by show st.op+1=_;omega) h p t;have k:=(j {st with op:=st.op+1} h p t).1.mono;unfold dU at a i⊢;simp only at a i⊢;generalize alt {st with op:=st.op+1}=r at u k a i⊢;have z:r.2.ok=true:=by
  rcases j:r.2.ok with _|_
  .have e:({r.2 with op:=r.2.op-1}:St).ok=false:=j;generalize({r.2 with op:=r.2.op-1}:St)=q at e a;split at a
   .have:(q.fail 5 r.2.at_).ok=true:=a;rw[St.aW _ (by decide)]at this;cases this
   .have:q.ok=true:=a;rw[e]at this;cases this
  .rfl
 have v:=u z;have m:((if({r.2 with op:=r.2.op-1}:St).ok=true/\aR s {r.2 with op:=r.2.op-1} 0≠41 then({r.2 with op:=r.2.op-1}:St).fail 5 r.2.at_ else{r.2 with op:=r.2.op-1}).bump 1).at_=r.2.at_+1:=by
  show(if _ then _ else _:St).at_+1=_;congr 1;split
  .exact St.jK _ _ _
  .rfl
 rw[m]at i;have k:st.at_<=r.2.at_:=k;have A:({st with op:=st.op+1}:St).at_=st.at_:=rfl;rw[A]at v;refine .mP _ _ _ _ rfl rfl v ?_;unfold ga;rw[if_neg (by omega)];have:=pO (show r.2.at_-st.at_<=T-2 by omega);omega
theorem Rb{st:St}(f:o<12->BB s alt (o+1))(h:st.op=o)(i:dV s c d alt)(p:0<=d)(e:st.ok=true)(j:st.at_<s.length)(r:st.aC<=9)(a:(dP s alt st).2.ok=true):Zc (dP s alt st).1 (ga ((dP s alt st).2.at_-st.at_)):=by
 unfold dP at a⊢;split at a
 .rw[St.aW _ (by decide)]at a;cases a
 rename_i u;rw[if_neg u];split at a
 .rename_i m;rw[if_pos m];have t:=dN (s:=s) (k:=2) (st:=st) (by omega);have v:=(pQ (n:=0) (st:=st.bump 3) i p e ((iC.refl 0 (Nat.le_of_lt j) r).bump 3 t)).2.2;have w:(st.bump 3).at_=st.at_+3:=rfl;exact DR (st:=st.bump 3) (f (by omega)) h i e t r a _ (by omega)
 rename_i m;rw[if_neg m];split at a
 .rw[St.aW _ (by decide)]at a;cases a
 rename_i z;rw[if_neg z];split at a
 .rw[St.aW _ (by decide)]at a;cases a
 rename_i A;rw[if_neg A];have v:=(pQ (n:=st.aC+1) i p (st:={st.bump 1 with aC:=st.aC+1}) e (show iC s 0 st {st.bump 1 with aC:=st.aC+1}from⟨Nat.le_add_right _ _,j,fun _=>j,rfl,Nat.le_add_right _ _,by show st.aC+1<=9;omega⟩)).2.2;have w:({st.bump 1 with aC:=st.aC+1}:St).at_=st.at_+1:=rfl;exact DR (st:={st.bump 1 with aC:=st.aC+1}) (f (by omega)) h i e j (by show st.aC+1<=9;omega) a _ (by omega)
theorem vM{x:aA}(m:Nat)(a:x.deep=0)(e:x.kind=2)(h:1<=m):Zc [x] m:=.leaf x m a (.inl e) h
theorem Ub{st:St}(e:o<12->BB s alt (o+1))(f:st.op=o)(m:dV s c d alt)(p:0<=d)(h:st.ok=true)(r:st.at_<s.length)(t:st.aC<=9)(a:(di s alt st).2.ok=true):Zc (di s alt st).1 (ga ((di s alt st).2.at_-st.at_)):=by
 unfold di at a⊢;simp only at a⊢;split at a
 .rw[St.aW _ (by decide)]at a;cases a
 rename_i u;rw[if_neg u];split at a
 .rename_i i;rw[if_pos i];exact Rb e f m p h r t a
 rename_i i;rw[if_neg i];split at a
 .rename_i j;rw[if_pos j];exact vM _ rfl rfl (xP _)
 rename_i j;rw[if_neg j];split at a
 .rename_i k;rw[if_pos k];unfold bL at a⊢;simp only at a⊢;split at a
  .exact vM _ rfl rfl (xP _)
  .split at a
   .exact vM _ rfl rfl (xP _)
   .split at a
    .exact vM _ rfl rfl (xP _)
    .rw[St.aW _ (by decide)]at a;cases a
 rename_i k;rw[if_neg k];split
 .exact vM _ rfl rfl (xP _)
 .exact vM _ rfl rfl (xP _)
theorem Uc{st:St}(D:s.length<=60)(i:o<12->BB s alt (o+1))(m:st.op=o)(j:dV s c d alt)(p:0<=d)(f:st.ok=true)(r:st.at_<s.length)(t:st.aC<=9)(e:(bU s alt st).2.ok=true):Zc (bU s alt st).1 (sc ((bU s alt st).2.at_-st.at_)):=by
 have z:=lV j p f r t;have a:=z.1.yA e;unfold bU at e a⊢;simp only at e a⊢;have w:∀x:aA,x.deep=0->(x.kind=2\/x.kind=3\/x.kind=4)->Zc [x] (sc ((st.bump 1).at_-st.at_)):=fun x A j=>.leaf x _ A j (by rw[show(st.bump 1).at_-st.at_=1 by show st.at_+1-st.at_=1;omega];decide);split at e
 .rename_i u;rw[if_pos u];exact w _ rfl (.inr (.inl rfl))
 rename_i u;rw[if_neg u]at a⊢;split at e
 .rename_i v;rw[if_pos v];exact w _ rfl (.inr (.inr rfl))
 rename_i v;rw[if_neg v]at a⊢;split at e
 .rename_i h;rw[if_pos h]at a⊢;have B:=Ub i m j p f r t h;have k:=zO j p f r t;have E:=k.2.2 h;have F:=(BC (s:=s) (k.1.yA h) k.1.dL (show 0<=d+1 by omega) k.2.1).1.mono;have C:=MU B (by omega) e (by omega);rwa[show(di s alt st).2.at_-st.at_+((cK s (di s alt st).1 (di s alt st).2).2.at_-(di s alt st).2.at_)=(cK s (di s alt st).1 (di s alt st).2).2.at_-st.at_ by omega]at C
 .rename_i h;exact absurd e h
theorem DT(B:s.length<=60)(m:o<12->BB s alt (o+1))(w:dV s c d alt)(z:0<=d):∀(n:Nat)(f st:St)(items:List (List aA)),st.op=o->f.at_<=st.at_->st.at_<=s.length\/st.ok=false->st.aC<=9->(st.ok=true->∃a,Ma items a/\a<=sc (st.at_-f.at_))->s.length+1<=n+st.at_\/st.ok=false->(bD s alt n st items).2.ok=true->Zc (bD s alt n st items).1 (sc ((bD s alt n st items).2.at_-f.at_))
|0,f,st,items,_,_,p,_,_,r,j=>by
 have j:st.ok=true:=j;rcases p with p|p
 .rcases r with r|r
  .omega
  .rw[j]at r;cases r
 .rw[j]at p;cases p
|n+1,f,st,items,u,I,p,C,D,r,j=>by
 rcases i:st.ok with _|_
 .have e:bD s alt (n+1) st items=([],st):=by unfold bD;rw[i];rfl
  rw[e]at j;have j:st.ok=true:=j;rw[i]at j;cases j
 .have p:st.at_<=s.length:=by rcases p with h|h;exact h;rw[i]at h;cases h
  have r:s.length+1<=n+1+st.at_:=by rcases r with h|h;exact h;rw[i]at h;cases h
  unfold bD at j⊢;rw[i]at j⊢;simp only[if_true]at j⊢;rcases E:fV (aR s st 0)with _|_
  .rw[E]at j;simp only[Bool.false_eq_true,if_false]at j⊢;have v:=dN (s:=s) (k:=0) (st:=st) (xQ E);have t:=lV w z i v C;have G:=t.1.mono;refine DT B m w z n f _ _ (t.1.op.trans u) (by omega) ?_ t.1.dL (fun h=>?_) ?_ j
   .rcases h:(bU s alt st).2.ok with _|_
    .exact .inr rfl
    .exact .inl (t.1.yA h)
   .obtain⟨a,A,F⟩:=D i;refine⟨_,A.snoc (Uc B m u w z i v C h),?_⟩;have J:=t.1.yA h;have H:=ZZ (a:=st.at_-f.at_) (b:=(bU s alt st).2.at_-st.at_) (by omega);rw[show st.at_-f.at_+((bU s alt st).2.at_-st.at_)=(bU s alt st).2.at_-f.at_ by omega]at H;omega
   .rcases h:(bU s alt st).2.ok with _|_
    .exact .inr rfl
    .left;have:=t.2.2 h;omega
  .obtain⟨a,A,F⟩:=D i;exact .seq _ _ _ _ rfl rfl A F
theorem PK(f:s.length<=60)(a:o<12->BB s alt (o+1))(h:dV s c d alt)(i:0<=d){st:St}(e:st.op=o)(j:st.at_<=s.length)(k:st.aC<=9)(m:(rowP s alt st).2.ok=true):Zc (rowP s alt st).1 (sc ((rowP s alt st).2.at_-st.at_)):=DT f a h i _ st st [] e (Nat.le_refl _) (.inl j) k (fun _=>⟨0,.nil,Nat.zero_le _⟩) (by left;omega) m
theorem DU(A:s.length<=60)(i:o<12->BB s alt (o+1))(v:dV s c d alt)(w:0<=d):∀(n:Nat)(f st:St)(e:List (List aA)),st.op=o->f.at_<=st.at_->st.aC<=9->1<=e.length->(st.ok=true->∃a,Ma e a/\a+2*(e.length-1)<=sc (st.at_-f.at_))->(bA s alt n st e).2.ok=true->∃a,Ma (bA s alt n st e).1 a/\a+2*((bA s alt n st e).1.length-1)<=sc ((bA s alt n st e).2.at_-f.at_)
|0,_,_,_,_,_,_,_,t,j=>t j
|n+1,f,st,e,m,F,B,G,t,j=>by
 unfold bA at j⊢;split at j
 .rename_i p;rw[if_pos p];simp only[Bool.and_eq_true,decide_eq_true_eq]at p;have r:=dN (s:=s) (k:=0) (st:=st) (by omega);have u:=jm v w (st:=st.bump 1) r B;have C:=u.1.mono;have H:(st.bump 1).at_=st.at_+1:=rfl;refine DU A i v w n f _ _ (u.1.op.trans m) (by omega) u.1.dL (by simp) (fun h=>?_) j;obtain⟨a,D,I⟩:=t p.1;have z:=PK A i v w (st:=st.bump 1) m r B h;refine⟨_,D.snoc z,?_⟩;have J:=u.1.yA h;have E:=Z0 (a:=st.at_-f.at_) (b:=(rowP s alt (st.bump 1)).2.at_-(st.bump 1).at_) (by omega);rw[show st.at_-f.at_+((rowP s alt (st.bump 1)).2.at_-(st.bump 1).at_)+1=(rowP s alt (st.bump 1)).2.at_-f.at_ by omega]at E;simp only[List.length_append,List.length_cons,List.length_nil];omega
 .rename_i p;rw[if_neg p];exact t j
theorem PL(i:s.length<=60)(e:o<12->BB s alt (o+1))(k:dV s c d alt)(m:0<=d){st:St}(f:st.op=o)(v:st.at_<=s.length)(w:st.aC<=9)(j:(oD s alt st).2.ok=true):Zc (oD s alt st).1 (sc ((oD s alt st).2.at_-st.at_)):=by
 have p:=jm k m (st:=st) v w;have h:=DU i e k m (s.length+2-(rowP s alt st).2.at_) st (rowP s alt st).2 [(rowP s alt st).1] (p.1.op.trans f) p.1.mono p.1.dL (by simp) (fun h=>by have r:=Ma.cons _ [] _ 0 (PK i e k m f v w h) .nil;exact⟨_,r,by simp⟩);unfold oD at j⊢;simp only at j⊢;generalize bA s alt (s.length+2-(rowP s alt st).2.at_) (rowP s alt st).2 [(rowP s alt st).1]=q at h j⊢;obtain⟨a,t,u⟩:=h j;split
 .rename_i z;match A:q.1,z with
  |[l],_=>
   rw[A]at t u;cases t with
   |cons _ _ x y B i=>
    cases i with
    |nil=>exact B.mono (by simp at u;omega)
 .exact .alt _ _ _ _ rfl rfl t u
theorem PM(e:s.length<=60):∀(n:Nat)(st:St),st.op+n=12->st.ok=true->st.at_<=s.length->st.aC<=9->(gV s n st).2.ok=true->Zc (gV s n st).1 (sc ((gV s n st).2.at_-st.at_))
|0,st,t,_,f,i,j=>PL (o:=st.op) (c:=0) (d:=0) e (fun h=>by omega) dV.stub (by decide) rfl f i j
|n+1,st,t,_,f,i,j=>PL (o:=st.op) e (fun _ k u a m p r=>PM e n k (by omega) a m p r) (rH s n) (by omega) rfl f i j
end
theorem F6(l:List aA):l.map (lift 0)=l:=by
 conv=>rhs;rw[<-List.map_id l]
 exact List.map_congr_left fun x _=>by show({x with deep:=x.deep+0}:aA)=x;rw[Int.add_zero]
theorem MP{s:List Int}{l:List aA}{p:Int}(h:parse s=(l,0,p))(n:Nat):PG.xM 1099511627776 n l:=by
 unfold parse at h;split at h
 .injection h with _ h;injection h with h _;omega
 rename_i w;split at h
 .injection h with _ h;injection h with h _;omega
 simp only at h;obtain⟨r,e⟩:∃r,gV s 12 ⟨0,0,0,0,0⟩=r:=⟨_,rfl⟩;rw[e]at h;generalize k:(if r.2.ok=true/\r.2.at_<s.length then r.2.fail 5 r.2.at_ else r.2)=d at h;by_cases a:d.ok=true
 .rw[if_pos a]at h;injection h with m _;have t:r.2.ok=true:=by
   rw[<-k]at a;split at a
   .rw[St.aW _ (by decide)]at a;cases a
   .exact a
  have u:=PM (s:=s) (by omega) 12 ⟨0,0,0,0,0⟩ rfl rfl (Nat.zero_le _) (by decide) (by rw[e];exact t);have f:=Xz u n 0;rw[e,m,F6]at f;refine PG.kH ?_ _ _ f;have v:∀i,sc i<=1099511627776:=fun i=>by
   rcases Nat.lt_or_ge i 61 with h|h
   .exact(show∀j:Fin 61,sc j<=1099511627776 by decide+kernel) ⟨i,h⟩
   .rw[MR h];decide
  exact v _
 .rw[if_neg a]at h;injection h with _ h;injection h with h _;exact absurd (show d.ok=true by unfold St.ok;rw[h];rfl) a
end RX
end Go.Proofs.YtcogknbbbjnaiaaGreatDoor
