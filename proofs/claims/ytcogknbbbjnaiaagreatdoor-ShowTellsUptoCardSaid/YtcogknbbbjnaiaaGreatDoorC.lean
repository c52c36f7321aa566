/- For ShowTells: what the texts XBase XMem of wip/tpl say. -/
import Derived.Test.YtcogknbbbjnaiaaGreatDoorRows
import Derived.WalkKit
import Derived.WalkSpells
import Derived.WalkLawsBesides
import Derived.BigQuiet
import Derived.Deep.QuietTactic
import Derived.Deep.AppendLies
import Derived.Deep.LoopGhost
import Derived.Laws.AppendOwnNone
import Derived.Lib.Hide
namespace Go.Proofs.YtcogknbbbjnaiaaGreatDoor
open Go.RowKit
def Ext(w w':World):Prop:=Below w.heap.size w w'
theorem Ext.refl(w:World):Ext w w:=Below.refl _ _
abbrev aa:=@Ext.refl
theorem Ext.size{a b:World}(h:Ext a b):a.heap.size<=b.heap.size:=Below.size h
abbrev jT:=@Ext.size
theorem Ext.trans{a b c:World}(h:Ext a b)(k:Ext b c):Ext a c:=Below.trans h (Below.mono k h.size)
abbrev jv:=@Ext.trans
theorem Ext.drew{a b:World}(h:Ext a b):Ext a b.drew:=Below.drew h
abbrev ak:=@Ext.drew
theorem Ext.drewN{a b:World}(h:Ext a b)(n:Nat):Ext a (b.drewN n):=below_drewN h n
abbrev ah:=@Ext.drewN
theorem Ext.alloc{a b:World}(h:Ext a b)(o:Obj):Ext a (b.alloc o):=Below.alloc h h.size o
abbrev af:=@Ext.alloc
theorem Ext.set{a b:World}(h:Ext a b){p:Addr}(d:a.heap.size<=p.block)(u:Value):Ext a (b.setCell p u):=Below.setCell h d u
theorem Ext.grown{a b c:World}(h:Ext a b){row:Option Nat}(d:b.grownBy c row)(e:∀k,row=some k->a.heap.size<=k):Ext a c:=Below.grown h d h.size e
theorem Ext.cell{w w':World}(h:Ext w w'){a:Addr}{v:Value}(d:w.cell? a=some v):w'.cell? a=some v:=(Below.cell h (World.block_lt_of_cell? w a d)).trans d
theorem Ext.heap{w w':World}(h:Ext w w'){g:Nat}{o:Obj}(a:w.heap[g]?=some o):w'.heap[g]?=some o:=by
 have f:g<w.heap.size:=by
  rcases Nat.lt_or_ge g w.heap.size with d|e
  .exact d
  .rw[Array.getElem?_eq_none e]at a;cases a
 exact(Below.block h g f).trans a
abbrev gG:=@Ext.heap
def qL(v:Value)(w:World)(e:Ending)(w':World):Prop:=e=.returned v/\Ext w w'
def Du(R:World->Value->Prop)(w:World)(e:Ending)(w':World):Prop:=∃v,e=.returned v/\R w' v/\Ext w w'
def abo(R:World->Value->Value->Prop)(w:World)(e:Ending)(w':World):Prop:=∃v u,e=.returned (.tuple #[v,u])/\R w' v u/\Ext w w'
theorem QN{u v:Value}(h:u=v):Ending.returned u=.returned v:=by rw[h]
abbrev aH:=@QN
def abp(w:World)(b o:Nat)(x:Int):Prop:=w.cell? ⟨b,o,none⟩=some (.int .i64 x)
def abq(w:World)(b o:Nat)(x:Int):Prop:=w.cell? ⟨b,o,none⟩=some (.int .i32 x)
def nz{α:Type}(sz:Nat)(R:World->Nat->Nat->α->Prop)(w:World)(v:Value)(xs:List α):Prop:=∃A c,v=.slice A xs.length c/\xs.length<=c/\c<=9223372036854775807/\(∀k x,xs[k]?=some x->∃b o,A=some ⟨b,o,none⟩/\R w b (o+k*sz) x)/\(A=none->c=0)
abbrev YX:=@nz Int 1 abp
abbrev ib:=@nz Int 1 abq
theorem nz.mono{α:Type}{sz:Nat}{R:World->Nat->Nat->α->Prop}{w w':World}{v:Value}{xs:List α}(h:nz sz R w v xs)(a:∀b o x,R w b o x->R w' b o x):nz sz R w' v xs:=by obtain⟨A,c,d,e,f,i,j⟩:=h;exact⟨A,c,d,e,f,fun k x m=>let⟨b,o,p,r⟩:=i k x m;⟨b,o,p,a _ _ _ r⟩,j⟩
theorem YX.ext{w w':World}{v:Value}{xs:List Int}(h:YX w v xs)(a:Ext w w'):YX w' v xs:=h.mono fun _ _ _ d=>a.cell d
theorem ib.ext{w w':World}{v:Value}{xs:List Int}(h:ib w v xs)(a:Ext w w'):ib w' v xs:=h.mono fun _ _ _ d=>a.cell d
theorem nz.eU{α:Type}{sz:Nat}{R:World->Nat->Nat->α->Prop}{w:World}:nz sz R w (.slice none 0 0) ([]:List α):=⟨none,0,rfl,Nat.le_refl _,by omega,by intro k x a;simp at a,fun _=>rfl⟩
theorem nz.at_{α:Type}{sz:Nat}{R:World->Nat->Nat->α->Prop}{w:World}{A:Option Addr}{n c:Nat}{xs:List α}(h:nz sz R w (.slice A n c) xs){k:Nat}{x:α}(a:xs[k]?=some x):∃b o,A=some ⟨b,o,none⟩/\R w b (o+k*sz) x:=by obtain⟨i,j,d,_,_,e,_⟩:=h;injection d with f _ _;subst f;exact e k x a
theorem YX.at_{w:World}{A:Option Addr}{n c:Nat}{xs:List Int}(h:YX w (.slice A n c) xs){k:Nat}(d:k<xs.length):∃b o,A=some ⟨b,o,none⟩/\w.cell? ⟨b,o+k,none⟩=some (.int .i64 xs[k]):=by obtain⟨b,o,e,a⟩:=nz.at_ h (List.getElem?_eq_getElem d);rw[Nat.mul_one]at a;exact⟨b,o,e,a⟩
theorem ib.at_{w:World}{A:Option Addr}{n c:Nat}{xs:List Int}(h:ib w (.slice A n c) xs){k:Nat}(d:k<xs.length):∃b o,A=some ⟨b,o,none⟩/\w.cell? ⟨b,o+k,none⟩=some (.int .i32 xs[k]):=by obtain⟨b,o,e,a⟩:=nz.at_ h (List.getElem?_eq_getElem d);rw[Nat.mul_one]at a;exact⟨b,o,e,a⟩
def iD(A:Option Addr)(c k sz:Nat):Option Addr:=if c=k then A else A.map (·.add (k*sz))
theorem Gu{P:Program}{t e:TypeId}{i:TypeInfo}(a:P.underlying t=some (.slice e))(hi:P.info? e=some i)(A:Option Addr){n c k:Nat}(f:k<=n)(W:World):(Instr.slice t (.slice A n c) (some (.int .i64 (k:Int))) none none).run P W=.ok (.slice (iD A c k i.size) (n-k) (c-k)) W:=by
 have d:(k:Int)<=n:=by omega
 simp[Instr.slice,Instr.sliceBounds,run_underlying a,sizeOf,typeInfo,hi,run_sliceBound,d,iD]
theorem mK{P:Program}{t e:TypeId}{i:TypeInfo}(a:P.underlying t=some (.slice e))(hi:P.info? e=some i)(A:Option Addr){n c k m:Nat}(h:k<=m)(j:m<=c)(W:World):(Instr.slice t (.slice A n c) (some (.int .i64 (k:Int))) (some (.int .i64 (m:Int))) none).run P W=.ok (.slice (iD A c k i.size) (m-k) (c-k)) W:=by
 have d:(k:Int)<=m:=by omega
 have f:(m:Int)<=c:=by omega
 simp[Instr.slice,Instr.sliceBounds,run_underlying a,sizeOf,typeInfo,hi,run_sliceBound,d,f,iD]
def aV(T:List TypeId)(w w':World):Prop:=∀(g:Nat)(cur:Array Value)(t:TypeId),t∈T->w.heap[g]?=some (.cells cur t (0,0))->w'.heap[g]?=some (.cells cur t (0,0))
theorem aV.refl(T:List TypeId)(w:World):aV T w w:=fun _ _ _ _ h=>h
theorem aV.trans{T:List TypeId}{a b c:World}(h:aV T a b)(k:aV T b c):aV T a c:=fun g d t e f=>k g d t e (h g d t e f)
theorem aV.sub{T e:List TypeId}{a b:World}(h:aV T a b)(f:∀t∈e,t∈T):aV e a b:=fun g d t i j=>h g d t (f t i) j
theorem aV.Nn{T:List TypeId}{a b:World}(h:Ext a b):aV T a b:=fun _ _ _ _ d=>h.heap d
abbrev au:=@aV.Nn
theorem XW{w:World}{g:Nat}{o:Obj}(h:w.heap[g]?=some o):g<w.heap.size:=by
 rcases Nat.lt_or_ge g w.heap.size with a|d
 .exact a
 .rw[Array.getElem?_eq_none d]at h;cases h
abbrev ag:=@XW
theorem aV.UK{T:List TypeId}{a b:World}{row:Option Nat}(h:a.grownBy b row)(k:∀g,row=some g->∃f t,a.heap[g]?=some (.cells f t (0,0))/\t∉T):aV T a b:=by intro g f t m i;refine(h.block g (ag i) ?_).trans i;intro e;obtain⟨j,r,d,p⟩:=k g e.symm;rw[i]at d;injection d with d;injection d with _ d _;exact p (d▸m)
abbrev kF:=@aV.UK
section
variable{α:Type}
def aT(t sz:Nat)(C:World->List Value->α->Prop)(base:Nat)(w:World)(v:Value)(xs:List α):Prop:=∃A c,v=.slice A xs.length c/\xs.length<=c/\c<=9223372036854775807/\(A=none->c=0)/\∀ad,A=some ad->∃g o cur,ad=⟨g,o,none⟩/\base<=g/\w.heap[g]?=some (.cells cur t (0,0))/\o+c*sz<=cur.size/\
 ∀k x,xs[k]?=some x->∃cs,C w cs x/\∀i u,cs[i]?=some u->cur[o+k*sz+i]?=some u
def fO(T:List TypeId)(C:World->List Value->α->Prop):Prop:=∀w w' cs x,aV T w w'->C w cs x->C w' cs x
theorem aT.eU{t sz:Nat}{C:World->List Value->α->Prop}{base:Nat}{w:World}:aT t sz C base w (.slice none 0 0) []:=⟨none,0,rfl,Nat.le_refl _,by omega,fun _=>rfl,by intro a h;cases h⟩
abbrev aS:=@aT.eU
theorem aT.keep{t sz:Nat}{C:World->List Value->α->Prop}{base:Nat}{w w':World}{v:Value}{xs:List α}{T:List TypeId}(h:aT t sz C base w v xs)(e:fO T C)(f:aV T w w')(i:aV [t] w w'):aT t sz C base w' v xs:=by obtain⟨A,c,j,m,p,r,s⟩:=h;refine⟨A,c,j,m,p,r,fun u d=>?_⟩;obtain⟨g,o,a,z,B,D,E,F⟩:=s u d;refine⟨g,o,a,z,B,i g a t (by simp) D,E,fun k x G=>?_⟩;obtain⟨H,I,J⟩:=F k x G;exact⟨H,e _ _ _ _ f I,J⟩
abbrev bH:=@aT.keep
theorem aT.weaken{t sz:Nat}{C:World->List Value->α->Prop}{base base':Nat}{w:World}{v:Value}{xs:List α}(h:aT t sz C base w v xs)(e:base'<=base):aT t sz C base' w v xs:=by obtain⟨A,c,f,i,j,k,m⟩:=h;refine⟨A,c,f,i,j,k,fun p a=>?_⟩;obtain⟨g,o,d,r,s,u⟩:=m p a;exact⟨g,o,d,r,Nat.le_trans e s,u⟩
abbrev jq:=@aT.weaken
theorem aT.imp{t sz:Nat}{C e:World->List Value->α->Prop}{base:Nat}{w:World}{v:Value}{xs:List α}(h:aT t sz C base w v xs)(f:∀cs x,C w cs x->e w cs x):aT t sz e base w v xs:=by obtain⟨A,c,i,j,m,p,r⟩:=h;refine⟨A,c,i,j,m,p,fun s a=>?_⟩;obtain⟨g,o,d,u,z,B,D,E⟩:=r s a;refine⟨g,o,d,u,z,B,D,fun k x F=>?_⟩;obtain⟨cs,G,H⟩:=E k x F;exact⟨cs,f _ _ G,H⟩
theorem aT.form{t sz:Nat}{C:World->List Value->α->Prop}{base:Nat}{w:World}{v:Value}{xs:List α}(h:aT t sz C base w v xs):∃A c,v=.slice A xs.length c/\xs.length<=c/\c<=9223372036854775807:=by obtain⟨A,c,a,d,e,_⟩:=h;exact⟨A,c,a,d,e⟩
theorem aT.at_{t sz:Nat}{C:World->List Value->α->Prop}{base:Nat}{w:World}{A:Option Addr}{n c:Nat}{xs:List α}(h:aT t sz C base w (.slice A n c) xs){k:Nat}(d:k<xs.length):∃g o cs,A=some ⟨g,o,none⟩/\C w cs xs[k]/\∀i u,cs[i]?=some u->w.cell? ⟨g,o+k*sz+i,none⟩=some u:=by
 obtain⟨D,E,e,F,G,f,j⟩:=h;injection e with m _ _;subst m;cases A with
 |none=>have:=f rfl;omega
 |some p=>obtain⟨g,o,a,rfl,_,r,_,s⟩:=j p rfl;obtain⟨cs,v,z⟩:=s k _ (List.getElem?_eq_getElem d);exact⟨g,o,cs,rfl,v,fun i u B=>(cell_of_row w g _ a t (0,0) r).trans (z i u B)⟩
def ay(t sz:Nat)(C:World->List Value->α->Prop)(base:Nat)(w:World)(v:Value)(xs:List α):Prop:=∃flat,w.ownsRow base t sz v xs.length flat/\∀k x,xs[k]?=some x->∃cs,C w cs x/\cs.length=sz/\∀i u,cs[i]?=some u->flat[k*sz+i]?=some u
theorem ay.eU{t sz:Nat}{C:World->List Value->α->Prop}{base:Nat}{w:World}:ay t sz C base w (.slice none 0 0) []:=⟨[],World.ownsRow_nil _ _ _ _,by intro k x a;simp at a⟩
abbrev dO:=@ay.eU
theorem ay.form{t sz:Nat}{C:World->List Value->α->Prop}{base:Nat}{w:World}{v:Value}{xs:List α}(h:ay t sz C base w v xs):∃A c,v=.slice A xs.length c/\xs.length<=c/\c<=9223372036854775807:=by
 obtain⟨flat,a,_⟩:=h;rcases a.2 with⟨rfl,i⟩|⟨g,d,j,rfl,_,_,e,f,_⟩
 .exact⟨none,0,by rw[i],by omega,by omega⟩
 .exact⟨_,d,rfl,e,by unfold maxLen at f;omega⟩
theorem ay.lt{t sz:Nat}{C:World->List Value->α->Prop}{base:Nat}{w:World}{v:Value}{xs:List α}(h:ay t sz C base w v xs):∀k,v.ownBlock=some k->base<=k/\k<w.heap.size:=by obtain⟨flat,a,_⟩:=h;exact a.lt
theorem jw{t sz n base:Nat}{w:World}{v:Value}{flat:List Value}(d:w.ownsRow base t sz v n flat):∀g,v.ownBlock=some g->∃a,w.heap[g]?=some (.cells a t (0,0)):=by
 intro g e;rcases d.2 with⟨rfl,_⟩|⟨i,f,a,rfl,_,h,_⟩
 .simp[Value.ownBlock]at e
 .simp[Value.ownBlock]at e;subst e;exact⟨a,h⟩
theorem ay.type{t sz:Nat}{C:World->List Value->α->Prop}{base:Nat}{w:World}{v:Value}{xs:List α}(h:ay t sz C base w v xs):∀g,v.ownBlock=some g->∃d,w.heap[g]?=some (.cells d t (0,0)):=by obtain⟨flat,a,_⟩:=h;exact jw a
theorem ay.gM{t sz:Nat}{C:World->List Value->α->Prop}{base:Nat}{w w':World}{v:Value}{xs:List α}{T:List TypeId}(h:ay t sz C base w v xs)(f:fO T C)(i:aV T w w')(j:aV [t] w w'):ay t sz C base w' v xs:=by
 obtain⟨flat,a,m⟩:=h;refine⟨flat,⟨a.1,?_⟩,fun k x p=>?_⟩
 .rcases a.2 with r|⟨g,e,d,s,u,z,rest⟩
  .exact .inl r
  .exact .inr ⟨g,e,d,s,u,j g d t (by simp) z,rest⟩
 .obtain⟨A,B,D⟩:=m k x p;exact⟨A,f _ _ _ _ i B,D⟩
theorem ay.sl{t sz:Nat}{C:World->List Value->α->Prop}{base:Nat}{w:World}{v:Value}{xs:List α}(h:ay t sz C base w v xs):aT t sz C base w v xs:=by
 obtain⟨flat,d,s⟩:=h;rcases d.2 with⟨rfl,z⟩|⟨g,e,f,rfl,A,B,j,m,p,a⟩
 .have:xs=[]:=List.eq_nil_of_length_eq_zero z;subst this;exact aS
 .refine⟨_,e,rfl,j,by unfold maxLen at m;omega,(by intro h;cases h),fun I r=>?_⟩;obtain rfl:=Option.some.inj r;refine⟨g,0,f,rfl,A,B,by rw[p];omega,fun k x D=>?_⟩;obtain⟨E,F,J,G⟩:=s k x D;refine⟨E,F,fun i u H=>?_⟩;have:=G i u H;rw[<-a,List.getElem?_take]at this;split at this
  .rw[Nat.zero_add];simpa using this
  .cases this
theorem ay.lit{t sz:Nat}{C:World->List Value->α->Prop}{base:Nat}{w:World}(cells:Array Value)(xs:List α)(nb n:Nat)(a:nb=w.heap.size)(e:n=xs.length)(f:base<=w.heap.size)(v:xs.length<=1000000)(d:cells.size=xs.length*sz)(h:∀k x,xs[k]?=some x->∃cs,C (w.alloc (.cells cells t)) cs x/\cs.length=sz/\∀i u,cs[i]?=some u->cells[k*sz+i]?=some u):ay t sz C base (w.alloc (.cells cells t)) (.slice (some ⟨nb,0,none⟩) n n) xs:=by
 subst a e;refine⟨cells.toList,⟨by simpa using d,.inr ⟨w.heap.size,xs.length,cells,rfl,f,heap_alloc_new w _,Nat.le_refl _,by unfold maxLen;omega,d,?_⟩⟩,fun k x j=>?_⟩
 .rw[<-d,List.take_of_length_le (by simp)]
 .obtain⟨cs,m,p,r⟩:=h k x j;exact⟨cs,m,p,fun i u s=>by simpa using r i u s⟩
abbrev jP:=@ay.lit
theorem ay.snoc{t sz:Nat}{C:World->List Value->α->Prop}{base:Nat}{w w':World}{r:Value}{xs:List α}{x:α}{flat cs:List Value}{T:List TypeId}(z:∀k x,xs[k]?=some x->∃cs,C w cs x/\cs.length=sz/\∀i u,cs[i]?=some u->flat[k*sz+i]?=some u)(H:flat.length=xs.length*sz)(s:fO T C)(v:aV T w w')(A:C w cs x)(e:cs.length=sz)(d:w'.ownsRow base t sz r (xs.length+1) (flat++cs)):ay t sz C base w' r (xs++[x]):=by
 refine⟨flat++cs,by rw[List.length_append];exact d,fun k y a=>?_⟩;rcases Nat.lt_or_ge k xs.length with f|B
 .rw[List.getElem?_append_left f]at a;obtain⟨D,E,F,G⟩:=z k y a;refine⟨D,s _ _ _ _ v E,F,fun i u j=>?_⟩;have m:=G i u j;rw[List.getElem?_append_left]
  .exact m
  .rcases Nat.lt_or_ge (k*sz+i) flat.length with h|h
   .exact h
   .rw[List.getElem?_eq_none h]at m;cases m
 .have p:k=xs.length:=by
   rcases Nat.lt_or_ge k (xs.length+1)with h|h
   .omega
   .rw[List.getElem?_eq_none (by simp;omega)]at a;cases a
  subst p;rw[List.getElem?_append_right (Nat.le_refl _)]at a;simp at a;subst a;refine⟨cs,s _ _ _ _ v A,e,fun i u j=>?_⟩;rw[List.getElem?_append_right (by omega),show xs.length*sz+i-flat.length=i from by omega];exact j
end
theorem jB(w:World)(cs:List Value)(t:TypeId):∀j x,cs[j]?=some x->(w.alloc (.cells cs.toArray t)).cell? ((⟨w.heap.size,0,none⟩:Addr).add j)=some x:=by
 intro j x a;have:(⟨w.heap.size,0,none⟩:Addr).add j=⟨w.heap.size,j,none⟩:=by unfold Addr.add;split<;>simp_all
 rw[this,World.cell?_alloc_new];simpa using a
section
variable{α:Type}{P:Program}{w:World}{ops:Array Oper}{rest:List Oper}{o:Oper}{a:Act}{Q:Exit->Act->World->Prop}
theorem CQ{t d sz bytes:Nat}{z:Value}(J:P.underlying t=some (.slice d))(K:(P.info? d).map (fun i=>(i.zero,i.size,i.bytes))=some (some z,sz,bytes))(j:z.cells.size=sz)(k:0<sz)(m:bytes<=1000){T:List TypeId}{C:World->List Value->α->Prop}(L:fO T C)(M:d∉T)(p:o.guard=none)(s x:Operand)(N:o.op=.call {callee:=.builtin .append,args:=#[s,x],argTypes:=#[t,t]})(B:Nat)(v:Value)(xs:List α)(y:α)(cs:List Value)(tb:TypeId)(e:ay d sz C B w v xs)(O:C w cs y)(r:cs.length=sz)(R:∀u∈cs,u.oneCell'=true)(S:a.eval s=v)(nb:Nat)(U:a.eval x=.slice (some ⟨nb,0,none⟩) 1 1)(A:nb=w.heap.size)(hn:xs.length<=1000000)(hB:B<=w.heap.size)(h:∀f w',ay d sz C B w' f (xs++[y])->(w.alloc (.cells cs.toArray tb)).grownBy w' v.ownBlock->wpList P ops Q rest (a.put o.dst f) w'):wpList P ops Q (o::rest) a (w.alloc (.cells cs.toArray tb)):=by subst A;obtain⟨V,hi,D,E,F⟩:=info_parts K;obtain⟨flat,G,X⟩:=e;refine wpList_append_own _ p s x t N B d V z sz bytes J hi D E F j k v xs.length flat S (World.ownsRow.alloc G _) ⟨w.heap.size,0,none⟩ 1 1 cs U (by omega) (jB _ _ _) R (by unfold maxLen;omega) (Nat.le_trans (Nat.mul_le_mul (show xs.length+1<=1000001 by omega) m) (by omega)) (by simp;omega) ?_;intro f w' Y I _;refine h f w' (ay.snoc X G.1 L ?_ O r Y) I;refine(au ((aa w).alloc _)).trans (kF I (fun g Z=>?_));obtain⟨H,hh⟩:=jw G g Z;exact⟨H,d,((aa w).alloc _).heap hh,M⟩
end
end Go.Proofs.YtcogknbbbjnaiaaGreatDoor
