/- For ShowTells: what the texts XReP XFmP XReL XReR XReW XPgP XShP XTpN XFmQ XTaM XFmT XFmR of wip/tpl say. -/
namespace Go.Proofs.YtcogknbbbjnaiaaGreatDoor
namespace RX
structure aA where
 kind:Int
 deep:Int
 lo:Int
 hi:Int
 lazy:Bool
 neg:Bool
 set:List Int
structure St where
 at_:Nat
 op:Nat
 aC:Nat
 code:Int
 gL:Int
def node(kind lo hi:Int)(lazy neg:Bool)(set:List Int):aA:=⟨kind,0,lo,hi,lazy,neg,set⟩
def aA.down(x:aA):aA:={x with deep:=x.deep+1}
def St.bump(st:St)(n:Nat):St:={st with at_:=st.at_+n}
def St.fail(st:St)(code gL:Int):St:=if st.code=0 then{st with code:=code,gL:=gL}else st
def St.ok(st:St):Bool:=st.code==0
def aR(s:List Int)(st:St)(n:Nat):Int:=(s[st.at_+n]?).getD (-1)
def under(top:aA)(parts:List (List aA)):List aA:=top::(parts.flatten.map aA.down)
def within(r a b:Int):Bool:=decide (a<=r)&&decide (r<=b)
def aQ(r:Int):Bool:=decide (0<=r)&&decide (r<=1114111)&&(decide (r<55296)||decide (57343<r))
def bE(r:Int):Int:=if aQ r=false then 0
 else if r=9\/r=32 then 1
 else if r=10 then 2
 else if r=215\/r=247 then 4
 else if within r 97 122=true\/within r 65 90=true\/within r 48 57=true\/r=95\/within r 192 255=true then 3
 else 4
def lower(r:Int):Int:=if within r 65 90=true\/(within r 192 222=true/\r≠215)then r+32 else r
def dA(c:Int):Option (List Int):=if c=100 then some [48,57]
 else if c=119 then some [97,122,65,90,48,57,95,95]
 else if c=115 then some [32,32,9,9,10,10]
 else none
def eF(c:Int):Option Int:=if c=110 then some 10 else if c=116 then some 9 else if c=-1 then none
 else if bE c=4\/bE c=1 then some c else none
def bL(s:List Int)(st0:St):List aA×St:=let st:=st0.bump 1;let c:=aR s st 0;match dA c with
|some l=>([node 2 0 0 false false l],st.bump 1)
|none=>match dA (lower c)with
 |some l=>([node 2 0 0 false true l],st.bump 1)
 |none=>match eF c with
  |some x=>([node 2 0 0 false false [x,x]],st.bump 1)
  |none=>([],st.fail 5 st.at_)
def member(s:List Int)(st:St):Int×Option (List Int)×St:=let c:=aR s st 0;if c=-1\/c=93 then(0,none,st.fail 5 st.at_)
 else if c=92 then
 let st1:=st.bump 1;let d:=aR s st1 0;if dA d=none/\eF d=none then(0,none,st1.fail 5 st1.at_)
 else((eF d).getD 0,dA d,st1.bump 1)
 else(c,none,st.bump 1)
def ranged(s:List Int)(st:St):Bool:=if aR s st 0=45 then
 let c:=aR s st 1;decide (c≠-1)&&decide (c≠93)&&(decide (c≠92)||(dA (aR s st 2)).isNone)
 else false
def bG(s:List Int)(st:St)(set:List Int):List Int×St:=let m:=member s st;match m.2.1 with
|some l=>(set++l,m.2.2)
|none=>
 let b:Int×St:=if m.2.2.ok&&ranged s m.2.2 then((member s (m.2.2.bump 1)).1,(member s (m.2.2.bump 1)).2.2)else(m.1,m.2.2);(set++[m.1,b.1],if b.2.ok=true/\b.1<m.1 then b.2.fail 5 st.at_ else b.2)
def dw(s:List Int):Nat->St->List Int->List Int×St
|0,st,set=>(set,st)
|n+1,st,set=>if st.ok&&(set.isEmpty||decide (aR s st 0≠93))then dw s n (bG s st set).2 (bG s st set).1 else(set,st)
def gZ(s:List Int)(st:St):List aA×St:=let neg:=decide (aR s st 0=94);let st1:=if neg then st.bump 1 else st;let r:=dw s (s.length+2-st1.at_) st1 [];([node 2 0 0 false neg r.1],r.2.bump 1)
def digit(c:Int):Int:=if c<48\/57<c then-1 else c-48
def must(s:List Int)(st:St):Int×St:=if digit (aR s st 0)<0 then(0,st.fail 5 st.at_)else(digit (aR s st 0),st.bump 1)
def high(s:List Int)(lo:Int)(st:St):Int×St:=if st.ok=true/\aR s st 0=44 then
 (if aR s (st.bump 1) 0≠125 then must s (st.bump 1)else(-1,st.bump 1))
 else(lo,st)
def bounds(s:List Int)(st:St):Int×Int×St:=let a:=must s (st.bump 1);let b:=high s a.1 a.2;let st1:=(if b.2.ok=true/\aR s b.2 0≠125 then b.2.fail 5 b.2.at_ else b.2).bump 1;(a.1,b.1,if st1.ok=true/\0<=b.1/\b.1<a.1 then st1.fail 5 st.at_ else st1)
def eP(s:List Int)(st:St):Option (Int×Int×St):=let c:=aR s st 0;if c=43 then some (1,-1,st.bump 1)
 else if c=42 then some (0,-1,st.bump 1)
 else if c=63 then some (0,1,st.bump 1)
 else if c=123 then some ((bounds s st).1,(bounds s st).2.1,(bounds s st).2.2)
 else none
def cK(s:List Int)(atom:List aA)(st:St):List aA×St:=match eP s st with
|none=>(atom,st)
|some (lo,hi,st1)=>
 let lz:=st1.ok&&decide (aR s st1 0=63);(under (node 6 lo hi lz false []) [atom],if lz then st1.bump 1 else st1)
section
variable(s:List Int)(alt:St->List aA×St)
def dU(n:Int)(st:St):List aA×St:=let r:=alt {st with op:=st.op+1};let st1:St:={r.2 with op:=r.2.op-1};let st2:=if st1.ok=true/\aR s st1 0≠41 then st1.fail 5 st1.at_ else st1;(under (node 5 n 0 false false []) [r.1],st2.bump 1)
def dP(st:St):List aA×St:=if 12<=st.op then([],st.fail 6 st.at_)
 else if aR s st 1=63/\aR s st 2=58 then dU s alt 0 (st.bump 3)
 else if aR s st 1=63 then([],st.fail 5 (st.at_+2))
 else if 9<=st.aC then([],st.fail 3 st.at_)
 else dU s alt (st.aC+1) {st.bump 1 with aC:=st.aC+1}
def di(st:St):List aA×St:=let c:=aR s st 0;if c=42\/c=43\/c=63\/c=123 then([],st.fail 5 st.at_)
 else if c=40 then dP s alt st
 else if c=91 then gZ s (st.bump 1)
 else if c=92 then bL s st
 else if c=46 then([node 2 0 0 false true [10,10]],st.bump 1)
 else([node 2 0 0 false false [c,c]],st.bump 1)
def bU(st:St):List aA×St:=let c:=aR s st 0;if c=94 then([node 3 0 0 false false []],st.bump 1)
 else if c=36 then([node 4 0 0 false false []],st.bump 1)
 else
 let a:=di s alt st;if a.2.ok then cK s a.1 a.2 else([],a.2)
def fV(c:Int):Bool:=decide (c=-1)||decide (c=124)||decide (c=41)
def bD:Nat->St->List (List aA)->List aA×St
|0,st,_=>([],st)
|n+1,st,items=>
 if st.ok then
 if fV (aR s st 0)then(under (node 0 0 0 false false []) items,st)
 else bD n (bU s alt st).2 (items++[(bU s alt st).1])
 else([],st)
def rowP(st:St):List aA×St:=bD s alt (s.length+2-st.at_) st []
def bA:Nat->St->List (List aA)->List (List aA)×St
|0,st,rows=>(rows,st)
|n+1,st,rows=>
 if st.ok&&decide (aR s st 0=124)then bA n (rowP s alt (st.bump 1)).2 (rows++[(rowP s alt (st.bump 1)).1])else(rows,st)
def oD(st:St):List aA×St:=let r:=rowP s alt st;let q:=bA s alt (s.length+2-r.2.at_) r.2 [r.1];(if q.1.length=1 then q.1.headD []else under (node 1 0 0 false false []) q.1,q.2)
end
def gV(s:List Int):Nat->St->List aA×St
|0=>oD s (fun st=>([],st))
|n+1=>oD s (gV s n)
def parse(s:List Int):List aA×Int×Int:=if 60<s.length then([],3,60)
 else match s.findIdx? (fun c=>bE c==0)with
|some i=>([],1,i)
|none=>
 let r:=gV s 12 ⟨0,0,0,0,0⟩;let st:=if r.2.ok=true/\r.2.at_<s.length then r.2.fail 5 r.2.at_ else r.2;if st.ok then(r.1,0,0)else([],st.code,st.gL)
def groups(l:List aA):Nat:=(l.filter fun x=>decide (x.kind=5)&&decide (0<x.lo)).length
end RX
namespace FM
structure Form where
 kind:Int
 group:Int
 rX:Int
 text:List Int
 els:List Int
def Cw(c:Int):Bool:=decide (48<=c)&&decide (c<=57)
def iZ:List Int->Nat
|[]=>0
|c::r=>if Cw c=true then iZ r+1 else 0
def val(l:List Int):Int:=l.foldl (fun n c=>10*n+(c-48)) 0
def number(l:List Int):Option (Int×Nat):=if iZ l=0\/2<iZ l then none else some (val (l.take (iZ l)),iZ l)
def marks:List Int:=[92,125,58,36,47]
def outer:List Int:=[92,36,125,47]
def text(e:Int):List Int->Option (List Int×Nat)
|[]=>none
|[c]=>if c=e then some ([],1)else none
|c::d::r=>if c=92/\d∈marks then(text e r).map (fun p=>(d::p.1,p.2+2))else if c=e then some ([],1)else(text e (d::r)).map (fun p=>(c::p.1,p.2+1))
def nUp:List Int:=[117,112,99,97,115,101]
def abG:List Int:=[100,111,119,110,99,97,115,101]
def ady:List Int:=[99,97,112,105,116,97,108,105,122,101]
def XP:List Int:=[112,97,115,99,97,108,99,97,115,101]
def aaf:List Int:=[99,97,109,101,108,99,97,115,101]
def names:List (List Int):=[nUp,abG,ady,XP,aaf]
def rW:List (List Int)->Int->List Int->Option (Int×Nat)
|[],_,_=>none
|w::ws,i,l=>if l.take (w.length+1)=w++[125]then some (i,w.length+1)else rW ws (i+1) l
def Kn(l:List Int):Option (Int×Nat):=rW names 1 l
def inner(g:Int)(l:List Int):Option (Form×Nat):=if l.head?=some 47 then(Kn l.tail).map fun p=>(⟨1,g,p.1,[],[]⟩,p.2+1)
 else if l.head?=some 43 then(text 125 l.tail).map fun p=>(⟨2,g,0,p.1,[]⟩,p.2+1)
 else if l.head?=some 63 then
 match text 58 l.tail with
|none=>none
|some p=>(text 125 (l.tail.drop p.2)).map fun q=>(⟨4,g,0,p.1,q.1⟩,p.2+q.2+1)
 else if l.head?=some 45 then(text 125 l.tail).map fun p=>(⟨3,g,0,[],p.1⟩,p.2+1)
 else(text 125 l).map fun p=>(⟨3,g,0,[],p.1⟩,p.2)
def part(l:List Int):Option (Form×Nat):=match number l with
|some (n,k)=>some (⟨1,n,0,[],[]⟩,k)
|none=>
 if l.head?=some 123 then
 match number l.tail with
 |none=>none
 |some (n,k)=>
 if(l.tail.drop k).head?=some 125 then some (⟨1,n,0,[],[]⟩,k+2)
 else if(l.tail.drop k).head?=some 58 then(inner n (l.tail.drop k).tail).map fun p=>(p.1,p.2+k+2)
 else none
 else none
def nX(fs:List Form)(tx:List Int):List Form:=if tx=[]then fs else fs++[⟨0,0,0,tx,[]⟩]
def Nf(c:Int)(r:List Int):Option Int:=if c=92 then r.head?.bind fun d=>if d∈outer then some d else none else none
def scan:Nat->List Int->List Form->List Int->Nat->Option (List Form×Nat)
|0,_,_,_,_=>none
|_+1,[],_,_,_=>none
|n+1,c::r,fs,tx,i=>
 if c=47 then some (nX fs tx,i)
 else if c=36 then
 match part r with
 |some (f,k)=>scan n (r.drop k) (nX fs tx++[f]) [] (i+1+k)
 |none=>scan n r fs (tx++[c]) (i+1)
 else match Nf c r with
 |some d=>scan n r.tail fs (tx++[d]) (i+2)
 |none=>scan n r fs (tx++[c]) (i+1)
def dJ(f:Form):Bool:=f.text.all RX.aQ&&f.els.all RX.aQ&&decide (0<=f.group)&&decide (f.group<=99)&&decide (0<=f.rX)&&decide (f.rX<=5)&&
 (if f.kind=0 then !f.text.isEmpty&&f.els.isEmpty&&decide (f.group=0)&&decide (f.rX=0)else if f.kind=1 then f.text.isEmpty&&f.els.isEmpty else if f.kind=2 then f.els.isEmpty&&decide (f.rX=0)else if f.kind=3 then f.text.isEmpty&&decide (f.rX=0)else if f.kind=4 then decide (f.rX=0)else false)
def ic:Bool->List Form->Bool
|_,[]=>true
|p,f::r=>dJ f&&!(p&&f.kind==0)&&ic (f.kind==0) r
def may(l:List Form):Bool:=ic false l
def lQ:Bool->List Form->Bool
|p,[]=>p
|_,f::r=>lQ (f.kind==0) r
def guard(m s:List Int):List Int:=(s.map fun c=>if c∈m then[92,c]else[c]).flatten
def dec(g:Int):List Int:=if g<10 then[48+g]else[48+g/10,48+g%10]
def body(f:Form):List Int:=if f.kind=1 then(if f.rX=0 then[]else 58::47::names.getD (f.rX.toNat-1) [])
 else if f.kind=2 then 58::43::guard marks f.text
 else if f.kind=3 then 58::45::guard marks f.els
 else if f.kind=4 then 58::63::(guard marks f.text++58::guard marks f.els)
 else[]
def put(f:Form):List Int:=if f.kind=0 then guard outer f.text else 36::123::(dec f.group++(body f++[125]))
def print(l:List Form):List Int:=(l.map put).flatten
theorem mU:∀(a:List Form)(p:Bool)(b:List Form),ic p (a++b)=(ic p a&&ic (lQ p a) b)
|[],p,b=>rfl
|f::r,p,b=>by simp only[List.cons_append,ic,lQ,mU r];simp only[Bool.and_assoc]
theorem rZ:∀(a:List Form)(p:Bool)(f:Form),lQ p (a++[f])=(f.kind==0)
|[],_,_=>rfl
|_::r,_,f=>rZ r _ f
theorem Ec(m:List Int)(c:Int)(s:List Int):guard m (c::s)=(if c∈m then[92,c]else[c])++guard m s:=rfl
theorem Kv{e d:Int}{r:List Int}(h:d∈marks):text e (92::d::r)=(text e r).map (fun p=>(d::p.1,p.2+2)):=by rw[text,if_pos ⟨rfl,h⟩]
theorem GK{e:Int}{r:List Int}(a:e≠92):text e (e::r)=some ([],1):=by
 cases r with
 |nil=>rw[text,if_pos rfl]
 |cons d r=>rw[text,if_neg (fun h=>a h.1),if_pos rfl]
theorem Eb{e c:Int}{r:List Int}(a:c≠e)(h:¬(c=92/\∃d f,r=d::f/\d∈marks)):text e (c::r)=(text e r).map (fun p=>(c::p.1,p.2+1)):=by
 cases r with
 |nil=>show text e [c]=none;rw[text,if_neg a]
 |cons d r=>rw[text,if_neg (fun k=>h ⟨k.1,d,r,rfl,k.2⟩),if_neg a]
theorem GH(m:List Int)(c:Int)(s:List Int):(guard m (c::s)).length=(if c∈m then 2 else 1)+(guard m s).length:=by rw[Ec,List.length_append];split<;>rfl
theorem Ng{e:Int}(d:e∈marks)(a:e≠92)(rest:List Int):∀t:List Int,text e (guard marks t++e::rest)=some (t,(guard marks t).length+1)
|[]=>GK a
|c::t=>by
 have f:=Ng d a rest t;rw[GH,Ec];by_cases h:c∈marks
 .rw[if_pos h,if_pos h];show text e (92::c::(guard marks t++e::rest))=_;rw[Kv h,f];simp only[Option.map_some,Option.some.injEq,Prod.mk.injEq,true_and];omega
 .rw[if_neg h,if_neg h];show text e (c::(guard marks t++e::rest))=_;rw[Eb (fun k=>h (by rw[k];exact d)) (fun k=>h (by rw[k.1];decide)),f];simp only[Option.map_some,Option.some.injEq,Prod.mk.injEq,true_and];omega
theorem CY:∀l:List Int,iZ l<=l.length
|[]=>Nat.le_refl _
|c::r=>by have:=CY r;unfold iZ;split<;>simp<;>omega
theorem Da(g:Int):1<=(dec g).length/\(dec g).length<=2:=by unfold dec;split<;>simp
theorem PQ{f:Form}(h:dJ f=true):f.text.all RX.aQ=true/\f.els.all RX.aQ=true/\0<=f.group/\f.group<=99/\0<=f.rX/\f.rX<=5/\((f.kind=0/\f.text≠[]/\f.els=[]/\f.group=0/\f.rX=0)\/(f.kind=1/\f.text=[]/\f.els=[])\/(f.kind=2/\f.els=[]/\f.rX=0)\/(f.kind=3/\f.text=[]/\f.rX=0)\/(f.kind=4/\f.rX=0)):=by
 unfold dJ at h;rw[Bool.and_eq_true]at h;obtain⟨h,a⟩:=h;simp only[Bool.and_eq_true,decide_eq_true_eq]at h;obtain⟨⟨⟨⟨⟨d,e⟩,i⟩,j⟩,k⟩,m⟩:=h;refine⟨d,e,i,j,k,m,?_⟩;split at a
 .simp at a;simp_all
 split at a
 .simp at a;simp_all
 split at a
 .simp at a;simp_all
 split at a
 .simp at a;simp_all
 split at a
 .simp at a;simp_all
 .cases a
theorem Ri{n:Nat}{r:List Int}{f:Form}{k i:Nat}{fs:List Form}{tx:List Int}(h:part r=some (f,k)):scan (n+1) (36::r) fs tx i=scan n (r.drop k) (nX fs tx++[f]) [] (i+1+k):=by rw[scan,if_neg (by decide),if_pos rfl,h]
theorem Uo{n:Nat}{d:Int}{r:List Int}{i:Nat}{fs:List Form}{tx:List Int}(h:d∈outer):scan (n+1) (92::d::r) fs tx i=scan n r fs (tx++[d]) (i+2):=by
 have e:Nf 92 (d::r)=some d:=by simp[Nf,h]
 rw[scan,if_neg (by decide),if_neg (by decide),e];rfl
theorem Ru{c:Int}{r:List Int}(a:¬(c=92/\∃d e,r=d::e/\d∈outer)):Nf c r=none:=by
 unfold Nf;split
 .rename_i f;cases r with
  |nil=>rfl
  |cons d r=>show(if d∈outer then some d else none)=none;rw[if_neg (fun k=>a ⟨f,d,r,rfl,k⟩)]
 .rfl
theorem GL{c d:Int}{r:List Int}(h:Nf c r=some d):c=92/\d∈outer/\∃a,r=d::a:=by
 unfold Nf at h;split at h
 .rename_i f;cases r with
  |nil=>cases h
  |cons e r=>
   have h:(if e∈outer then some e else none)=some d:=h;split at h
   .injection h with h;subst h;exact⟨f,‹_›,r,rfl⟩
   .cases h
 .cases h
theorem M7{n:Nat}{c:Int}{r:List Int}{i:Nat}{fs:List Form}{tx:List Int}(e:c≠47)(f:c=36->part r=none)(h:¬(c=92/\∃d j,r=d::j/\d∈outer)):scan (n+1) (c::r) fs tx i=scan n r fs (tx++[c]) (i+1):=by
 rw[scan,if_neg e];by_cases a:c=36
 .rw[if_pos a,f a]
 .rw[if_neg a,Ru h]
theorem qY:∀(n m:Nat)(l:List Int)(fs:List Form)(tx:List Int)(i:Nat),l.length<n->l.length<m->scan n l fs tx i=scan m l fs tx i
|0,_,_,_,_,_,h,_=>by omega
|_+1,0,_,_,_,_,_,h=>by omega
|n+1,m+1,[],fs,tx,i,_,_=>rfl
|n+1,m+1,c::r,fs,tx,i,e,j=>by
 have a:r.length<n:=by simpa using e
 have d:r.length<m:=by simpa using j
 unfold scan;split
 .rfl
 split
 .split
  .rename_i f k _;exact qY n m _ _ _ _ (by rw[List.length_drop];omega) (by rw[List.length_drop];omega)
  .exact qY n m _ _ _ _ a d
 .split
  .exact qY n m _ _ _ _ (by rw[List.length_tail];omega) (by rw[List.length_tail];omega)
  .exact qY n m _ _ _ _ a d
end FM
namespace RX
theorem St.aW{c b:Int}(st:St)(h:c≠0):(st.fail c b).ok=false:=by
 unfold St.fail St.ok;split
 .simpa using h
 .rename_i a;simpa using a
theorem St.jK(c b:Int)(st:St):(st.fail c b).at_=st.at_:=by unfold St.fail;split<;>rfl
theorem St.Jb(c b:Int)(st:St):(st.fail c b).op=st.op:=by unfold St.fail;split<;>rfl
theorem St.iI(c b:Int)(st:St):(st.fail c b).aC=st.aC:=by unfold St.fail;split<;>rfl
theorem dN{s:List Int}{st:St}{k:Nat}(h:aR s st k≠-1):st.at_+k<s.length:=by
 rcases Nat.lt_or_ge (st.at_+k) s.length with a|a
 .exact a
 .exact absurd (by unfold aR;rw[List.getElem?_eq_none a];rfl) h
structure iC(s:List Int)(c:Nat)(st st':St):Prop where
 mono:st.at_<=st'.at_
 hi:st'.at_<=s.length+c
 yA:st'.ok=true->st'.at_<=s.length
 op:st'.op=st.op
 zx:st.aC<=st'.aC
 dL:st'.aC<=9
theorem iC.refl{s:List Int}{st:St}(c:Nat)(a:st.at_<=s.length)(d:st.aC<=9):iC s c st st:=⟨Nat.le_refl _,by omega,fun _=>a,rfl,Nat.le_refl _,d⟩
theorem iC.EO{s:List Int}{c d:Nat}{st a:St}(h:iC s c st a)(e:c<=d):iC s d st a:=⟨h.mono,by have:=h.hi;omega,h.yA,h.op,h.zx,h.dL⟩
theorem iC.trans{s:List Int}{c:Nat}{a b d:St}(h:iC s c a b)(k:iC s c b d):iC s c a d:=⟨Nat.le_trans h.mono k.mono,k.hi,k.yA,k.op.trans h.op,Nat.le_trans h.zx k.zx,k.dL⟩
theorem iC.fail{s:List Int}{c:Nat}{st a:St}(h:iC s c st a){e b:Int}(d:e≠0):iC s c st (a.fail e b)where
 mono:=by rw[St.jK];exact h.mono
 hi:=by rw[St.jK];exact h.hi
 yA:=by rw[St.aW _ d];exact(fun h=>nomatch h)
 op:=by rw[St.Jb];exact h.op
 zx:=by rw[St.iI];exact h.zx
 dL:=by rw[St.iI];exact h.dL
theorem iC.bump{s:List Int}{c:Nat}{st a:St}(h:iC s c st a)(n:Nat)(d:a.at_+n<=s.length):iC s c st (a.bump n):=⟨Nat.le_trans h.mono (Nat.le_add_right _ _),by show a.at_+n<=_;omega,fun _=>d,h.op,h.zx,h.dL⟩
theorem iC.bZ{s:List Int}{c:Nat}{st a:St}(h:iC s c st a)(d:a.ok=true->a.at_<s.length):iC s (c+1) st (a.bump 1):=⟨Nat.le_trans h.mono (Nat.le_add_right _ _),by have:=h.hi;show a.at_+1<=_;omega,fun e=>d e,h.op,h.zx,h.dL⟩
theorem Yh{c:Int}{l:List Int}(h:dA c=some l):c≠-1:=by rintro rfl;simp[dA]at h
theorem Vr{c:Int}{l:List Int}(h:dA (lower c)=some l):c≠-1:=by rintro rfl;simp[dA,lower,within]at h
theorem Yi{c x:Int}(h:eF c=some x):c≠-1:=by rintro rfl;simp[eF]at h
theorem uL{c:Int}{l:List Int}(h:dA c=some l):1<=l.length/\l.length<=8/\l.length%2=0:=by
 unfold dA at h;split at h
 .injection h with h;subst h;simp
 .split at h
  .injection h with h;subst h;simp
  .split at h
   .injection h with h;subst h;simp
   .cases h
section
variable{s:List Int}
theorem Bu{st:St}(e:st.at_<s.length)(f:st.aC<=9):iC s 0 st (bL s st).2:=by
 have a:iC s 0 st (st.bump 1):=(iC.refl 0 (Nat.le_of_lt e) f).bump 1 e;unfold bL;simp only;split
 .rename_i l d;exact a.bump 1 (dN (Yh d))
 .split
  .rename_i l d;exact a.bump 1 (dN (Vr d))
  .split
   .rename_i x h;exact a.bump 1 (dN (Yi h))
   .exact a.fail (by decide)
theorem Le(st:St):(bL s st).1.length<=1/\∀x∈(bL s st).1,x.deep=0:=by
 unfold bL;simp only;split
 .simp[node]
 .split
  .simp[node]
  .split<;>simp[node]
theorem Jc(st:St):st.at_+1<=(bL s st).2.at_:=by
 unfold bL;simp only;split
 .show _<=st.at_+1+1;omega
 .split
  .show _<=st.at_+1+1;omega
  .split
   .show _<=st.at_+1+1;omega
   .rw[St.jK];exact Nat.le_refl _
theorem iQ{st:St}(e:st.at_<=s.length)(f:st.aC<=9):iC s 0 st (member s st).2.2:=by
 have d:iC s 0 st st:=iC.refl 0 e f;unfold member;simp only;split
 .exact d.fail (by decide)
 .rename_i h;have i:=dN (s:=s) (st:=st) (k:=0) (fun a=>h (.inl a));have a:=d.bump 1 i;split
  .split
   .exact a.fail (by decide)
   .rename_i j;refine a.bump 1 (dN (k:=0) fun m=>j ?_);rw[m];exact⟨by simp[dA],by simp[eF]⟩
  .exact a
theorem kR{st:St}(h:(member s st).2.2.ok=true):st.at_+1<=(member s st).2.2.at_:=by
 unfold member at h⊢;simp only at h⊢;split at h
 .rw[St.aW _ (by decide)]at h;cases h
 .rename_i d;rw[if_neg d];split at h
  .rename_i a;rw[if_pos a];split at h
   .rw[St.aW _ (by decide)]at h;cases h
   .rename_i e;rw[if_neg e];show _<=st.at_+1+1;omega
  .rename_i a;rw[if_neg a];exact Nat.le_refl _
theorem pR{st:St}{l:List Int}(h:(member s st).2.1=some l):1<=l.length/\l.length<=8/\l.length%2=0:=by
 unfold member at h;simp only at h;split at h
 .cases h
 .split at h
  .split at h
   .cases h
   .exact uL h
  .cases h
theorem Hm{st:St}(h:ranged s st=true):st.at_+1<s.length:=by
 unfold ranged at h;split at h
 .simp only[Bool.and_eq_true,decide_eq_true_eq]at h;exact dN h.1.1
 .cases h
theorem gT{st:St}{set l:List Int}(h:(member s st).2.1=some l):bG s st set=(set++l,(member s st).2.2):=by unfold bG;simp only[h]
def aO(s:List Int)(st:St):Int×St:=if(member s st).2.2.ok&&ranged s (member s st).2.2 then((member s ((member s st).2.2.bump 1)).1,(member s ((member s st).2.2.bump 1)).2.2)else((member s st).1,(member s st).2.2)
theorem eD{st:St}{set:List Int}(h:(member s st).2.1=none):bG s st set=(set++[(member s st).1,(aO s st).1],if(aO s st).2.ok=true/\(aO s st).1<(member s st).1 then(aO s st).2.fail 5 st.at_ else(aO s st).2):=by unfold bG aO;simp only[h]
theorem rU{st:St}(e:st.at_<=s.length)(f:st.aC<=9):iC s 0 st (aO s st).2:=by
 have a:=iQ (s:=s) e f;unfold aO;split
 .rename_i h;simp only[Bool.and_eq_true]at h;have i:=Hm h.2;have d:=a.bump 1 (by omega);exact d.trans (iQ (st:=(member s st).2.2.bump 1) (by show(member s st).2.2.at_+1<=_;omega) d.dL)
 .exact a
theorem xA{st:St}(d:st.at_<=s.length)(e:st.aC<=9)(h:(aO s st).2.ok=true):st.at_+1<=(aO s st).2.at_:=by
 unfold aO at h⊢;split at h
 .rename_i a;rw[if_pos a];simp only[Bool.and_eq_true]at a;have j:=Hm a.2;have k:=kR a.1;have f:=(iQ (s:=s) d e).bump 1 (show(member s st).2.2.at_+1<=s.length by omega);have i:=(iQ (s:=s) (st:=(member s st).2.2.bump 1) (by show(member s st).2.2.at_+1<=_;omega) f.dL).mono;have:(member s st).2.2.at_+1<=(member s ((member s st).2.2.bump 1)).2.2.at_:=i;show st.at_+1<=(member s ((member s st).2.2.bump 1)).2.2.at_;omega
 .rename_i a;rw[if_neg a];exact kR h
theorem oK{st:St}{set:List Int}(a:st.at_<=s.length)(d:st.aC<=9):iC s 0 st (bG s st set).2:=by
 rcases e:(member s st).2.1 with _|l
 .rw[eD e];have h:=rU (s:=s) a d;simp only;split
  .exact h.fail (by decide)
  .exact h
 .rw[gT e];exact iQ a d
theorem tF{st:St}{set:List Int}(d:st.at_<=s.length)(e:st.aC<=9)(h:(bG s st set).2.ok=true):st.at_+1<=(bG s st set).2.at_:=by
 rcases a:(member s st).2.1 with _|l
 .rw[eD a]at h⊢;simp only at h⊢;split at h
  .rw[St.aW _ (by decide)]at h;cases h
  .rename_i f;rw[if_neg f];exact xA d e h
 .rw[gT a]at h⊢;exact kR h
theorem uA(st:St)(set:List Int):(bG s st set).1.length<=set.length+8/\set.length+1<=(bG s st set).1.length/\(bG s st set).1.length%2=set.length%2:=by
 rcases a:(member s st).2.1 with _|l
 .rw[eD a];simp only[List.length_append,List.length_cons,List.length_nil];omega
 .rw[gT a];have:=pR a;simp only[List.length_append];omega
theorem dR{n:Nat}{st:St}{set:List Int}(h:(st.ok&&(set.isEmpty||decide (aR s st 0≠93)))=false):dw s n st set=(set,st):=by
 cases n with
 |zero=>rfl
 |succ n=>unfold dw;rw[h];rfl
theorem gY{n:Nat}{st:St}{set:List Int}(h:(st.ok&&(set.isEmpty||decide (aR s st 0≠93)))=true):dw s (n+1) st set=dw s n (bG s st set).2 (bG s st set).1:=by rw[dw,if_pos h]
theorem qB:∀(n:Nat){st:St}{set:List Int},st.at_<=s.length->st.aC<=9->iC s 0 st (dw s n st set).2
|0,_,_,d,e=>iC.refl 0 d e
|n+1,st,set,d,e=>by
 rcases f:(st.ok&&(set.isEmpty||decide (aR s st 0≠93)))with _|_
 .rw[dR f];exact iC.refl 0 d e
 .rw[gY f];have h:=oK (set:=set) d e;rcases a:(bG s st set).2.ok with _|_
  .rw[dR (by rw[a];rfl)];exact h
  .exact h.trans (qB n (h.yA a) h.dL)
theorem qF:∀(n:Nat){st:St}{set:List Int},st.at_<=s.length->st.aC<=9->s.length+1<=n+st.at_->(dw s n st set).2.ok=true->aR s (dw s n st set).2 0=93/\(dw s n st set).1≠[]
|0,_,_,f,_,j,_=>by omega
|n+1,st,set,f,i,j,a=>by
 rcases d:(st.ok&&(set.isEmpty||decide (aR s st 0≠93)))with _|_
 .rw[dR d]at a⊢;have a:st.ok=true:=a;rw[a]at d;simp at d;refine⟨d.2,?_⟩;intro h;have h:set=[]:=h;rw[h]at d;simp at d
 .rw[gY d]at a⊢;have h:=oK (set:=set) f i;rcases e:(bG s st set).2.ok with _|_
  .rw[dR (by rw[e];rfl)]at a;have a:(bG s st set).2.ok=true:=a;rw[e]at a;cases a
  .have k:=tF (set:=set) f i e;exact qF n (h.yA e) h.dL (by omega) a
theorem qE:∀(n:Nat)(st:St)(set:List Int),(dw s n st set).1.length<=set.length+8*n/\(dw s n st set).1.length%2=set.length%2
|0,_,set=>⟨Nat.le_refl _,rfl⟩
|n+1,st,set=>by
 rcases a:(st.ok&&(set.isEmpty||decide (aR s st 0≠93)))with _|_
 .rw[dR a];exact⟨Nat.le_add_right _ _,rfl⟩
 .rw[gY a];have d:=uA (s:=s) st set;have e:=qE n (bG s st set).2 (bG s st set).1;omega
theorem xK{st:St}(f:st.at_<=s.length)(i:st.aC<=9):iC s 1 st (gZ s st).2:=by
 unfold gZ;simp only;have d:iC s 0 st (if decide (aR s st 0=94)=true then st.bump 1 else st):=by
  split
  .rename_i h;have h:aR s st 0=94:=of_decide_eq_true h;exact(iC.refl 0 f i).bump 1 (dN (k:=0) (by omega))
  .exact iC.refl 0 f i
 generalize(if decide (aR s st 0=94)=true then st.bump 1 else st)=a at d⊢;have j:a.at_<=s.length:=d.hi;have m:=d.trans (qB (s.length+2-a.at_) (set:=[]) j d.dL);exact m.bZ fun e=>by have:=dN (k:=0) (s:=s) (st:=(dw s (s.length+2-a.at_) a []).2) (by rw[(qF _ j d.dL (by omega) e).1];decide);exact this
theorem NZ(st:St):(gZ s st).1.length=1/\∀x∈(gZ s st).1,x.deep=0:=by unfold gZ;simp[node]
theorem Vs{c:Int}(h:¬digit c<0):c≠-1:=by rintro rfl;simp[digit]at h
theorem EP{st:St}(a:st.at_<=s.length)(d:st.aC<=9):iC s 0 st (must s st).2:=by
 unfold must;split
 .exact(iC.refl 0 a d).fail (by decide)
 .rename_i h;exact(iC.refl 0 a d).bump 1 (dN (k:=0) (Vs h))
theorem Lf{st:St}{lo:Int}(d:st.at_<=s.length)(e:st.aC<=9):iC s 0 st (high s lo st).2:=by
 unfold high;split
 .rename_i h;have a:=(iC.refl 0 d e).bump 1 (dN (s:=s) (k:=0) (st:=st) (by omega));split
  .exact a.trans (EP a.hi a.dL)
  .exact a
 .exact iC.refl 0 d e
theorem N7{st:St}(j:st.at_<s.length)(m:st.aC<=9):iC s 1 st (bounds s st).2.2/\st.at_+1<=(bounds s st).2.2.at_:=by
 have a:iC s 0 st (st.bump 1):=(iC.refl 0 (Nat.le_of_lt j) m).bump 1 j;have d:=a.trans (EP a.hi a.dL);have f:=d.trans (Lf (lo:=(must s (st.bump 1)).1) d.hi d.dL);have p:st.at_+1<=(high s (must s (st.bump 1)).1 (must s (st.bump 1)).2).2.at_:=
  Nat.le_trans (EP (st:=st.bump 1) a.hi a.dL).mono (Lf (lo:=(must s (st.bump 1)).1) (st:=(must s (st.bump 1)).2) d.hi d.dL).mono;unfold bounds;simp only;generalize high s (must s (st.bump 1)).1 (must s (st.bump 1)).2=b at f p;generalize(must s (st.bump 1)).1=lo;have e:iC s 1 st ((if b.2.ok=true/\aR s b.2 0≠125 then b.2.fail 5 b.2.at_ else b.2).bump 1)/\st.at_+1<=((if b.2.ok=true/\aR s b.2 0≠125 then b.2.fail 5 b.2.at_ else b.2).bump 1).at_:=by
  split
  .exact⟨(f.fail (by decide)).bZ (by rw[St.aW _ (by decide)];exact(fun h=>nomatch h)),by show _<=(b.2.fail 5 b.2.at_).at_+1;rw[St.jK];omega⟩
  .rename_i h;exact⟨f.bZ fun i=>dN (s:=s) (k:=0) (by intro r;exact h ⟨i,by rw[r];decide⟩),by show _<=b.2.at_+1;omega⟩
 generalize(if b.2.ok=true/\aR s b.2 0≠125 then b.2.fail 5 b.2.at_ else b.2).bump 1=t at e;split
 .exact⟨e.1.fail (by decide),by rw[St.jK];exact e.2⟩
 .exact e
theorem N8{st a:St}{lo hi:Int}(h:eP s st=some (lo,hi,a))(d:st.aC<=9):iC s 1 st a/\st.at_+1<=a.at_:=by
 unfold eP at h;simp only at h;split at h;rotate_left;focus
  split at h;rotate_left;focus
   split at h;rotate_left
   .split at h
    .injection h with h;injection h with _ h;injection h with _ h;subst h;rename_i f;exact N7 (dN (s:=s) (k:=0) (st:=st) (by omega)) d
    .cases h
  rotate_left
 rotate_left 2;all_goals
  injection h with h;injection h with _ h;injection h with _ h;subst h;rename_i f;have e:=dN (s:=s) (k:=0) (st:=st) (by omega);exact⟨((iC.refl 0 (Nat.le_of_lt e) d).bump 1 e).EO (by omega),Nat.le_refl _⟩
def Tr(d:Int)(k:Nat)(l:List aA):Prop:=l.length<=k/\∀x∈l,0<=x.deep/\x.deep<=d
theorem Tr.eU{d:Int}{k:Nat}:Tr d k []:=⟨Nat.zero_le _,by simp⟩
theorem Tr.mono{d a:Int}{k e:Nat}{l:List aA}(h:Tr d k l)(i:d<=a)(j:k<=e):Tr a e l:=⟨Nat.le_trans h.1 j,fun x f=>⟨(h.2 x f).1,Int.le_trans (h.2 x f).2 i⟩⟩
theorem Tr.one{d:Int}{k:Nat}{x:aA}(h:x.deep=0)(f:0<=d)(e:1<=k):Tr d k [x]:=⟨e,by intro y a;simp at a;subst a;omega⟩
theorem dZ(top:aA)(parts:List (List aA)):(under top parts).length=1+parts.flatten.length:=by simp only[under,List.length_cons,List.length_map];omega
theorem oV{d:Int}{top:aA}{parts:List (List aA)}(i:top.deep=0)(j:0<=d)(h:∀l∈parts,∀x∈l,0<=x.deep/\x.deep<=d):Tr (d+1) (1+parts.flatten.length) (under top parts):=by
 refine⟨Nat.le_of_eq (dZ _ _),fun x a=>?_⟩;unfold under at a;rcases List.mem_cons.1 a with rfl|a
 .omega
 .obtain⟨y,e,rfl⟩:=List.mem_map.1 a;obtain⟨l,f,e⟩:=List.mem_flatten.1 e;have:=h l f y e;simp only[aA.down];omega
theorem Ho{d:Int}{k:Nat}{top:aA}{l:List aA}(e:top.deep=0)(f:0<=d)(h:Tr d k l):Tr (d+1) (k+1) (under top [l]):=(oV (parts:=[l]) e f (fun i a=>by simp at a;subst a;exact h.2)).mono (Int.le_refl _) (by have:=h.1;simp;omega)
theorem BC{st:St}{a:List aA}{d:Int}{k:Nat}(f:st.at_<=s.length)(i:st.aC<=9)(p:0<=d)(j:Tr d k a):iC s 1 st (cK s a st).2/\Tr (d+1) (k+((cK s a st).2.at_-st.at_)) (cK s a st).1:=by
 unfold cK;rcases r:eP s st with _|⟨lo,hi,e⟩
 .exact⟨iC.refl 1 f i,j.mono (by omega) (Nat.le_add_right _ _)⟩
 .simp only;have h:=N8 r i;have m:=Ho (top:=node 6 lo hi (e.ok&&decide (aR s e 0=63)) false []) rfl p j;split
  .rename_i t;simp only[Bool.and_eq_true,decide_eq_true_eq]at t;have u:=dN (s:=s) (k:=0) (st:=e) (by omega);refine⟨h.1.bump 1 u,m.mono (Int.le_refl _) ?_⟩;show _<=k+(e.at_+1-st.at_);omega
  .exact⟨h.1,m.mono (Int.le_refl _) (by omega)⟩
def dV(s:List Int)(c:Nat)(d:Int)(alt:St->List aA×St):Prop:=∀st:St,st.ok=true->st.at_<=s.length->st.aC<=9->iC s c st (alt st).2/\Tr d (2*((alt st).2.at_-st.at_)+2) (alt st).1
theorem dV.weak{c a:Nat}{d e:Int}{alt:St->List aA×St}(h:dV s c d alt)(k:c<=a)(m:d<=e):dV s a e alt:=fun st f i j=>⟨(h st f i j).1.EO k,(h st f i j).2.mono m (Nat.le_refl _)⟩
theorem dV.stub{c:Nat}{d:Int}:dV s c d (fun st=>([],st)):=fun _ _ a e=>⟨iC.refl c a e,Tr.eU⟩
variable{c:Nat}{d:Int}{alt:St->List aA×St}
theorem pQ{n:Int}{st e:St}(m:dV s c d alt)(w:0<=d)(f:st.ok=true)(p:iC s 0 e st):iC s (c+1) e (dU s alt n st).2/\Tr (d+1) (2*((dU s alt n st).2.at_-st.at_)+1) (dU s alt n st).1/\st.at_+1<=(dU s alt n st).2.at_:=by
 have h:=m {st with op:=st.op+1} f p.hi p.dL;unfold dU;simp only;generalize alt {st with op:=st.op+1}=r at h⊢;obtain⟨i,z⟩:=h;have D:st.at_<=r.2.at_:=i.mono;have u:r.2.op-1=st.op:=by rw[i.op];exact Nat.add_sub_cancel _ _
 have v:iC s c e {r.2 with op:=r.2.op-1}:=⟨Nat.le_trans p.mono i.mono,i.hi,i.yA,by rw[<-p.op];exact u,Nat.le_trans p.zx i.zx,i.dL⟩;generalize A:({r.2 with op:=r.2.op-1}:St)=a at v⊢;have t:a.at_=r.2.at_:=by rw[<-A]
 have j:iC s (c+1) e ((if a.ok=true/\aR s a 0≠41 then a.fail 5 r.2.at_ else a).bump 1)/\((if a.ok=true/\aR s a 0≠41 then a.fail 5 r.2.at_ else a).bump 1).at_=r.2.at_+1:=by
  split
  .exact⟨(v.fail (by decide)).bZ (by rw[St.aW _ (by decide)];exact(fun h=>nomatch h)),by show(a.fail 5 r.2.at_).at_+1=_;rw[St.jK,t]⟩
  .rename_i B;exact⟨v.bZ fun f=>dN (s:=s) (k:=0) (by intro j;exact B ⟨f,by rw[j];decide⟩),by show a.at_+1=_;rw[t]⟩
 generalize(if a.ok=true/\aR s a 0≠41 then a.fail 5 r.2.at_ else a).bump 1=C at j;refine⟨j.1,(Ho rfl w z).mono (Int.le_refl _) ?_,?_⟩
 .rw[j.2];show 2*(r.2.at_-st.at_)+2+1<=_;omega
 .rw[j.2];omega
theorem Dt{st:St}(f:dV s c d alt)(r:0<=d)(i:st.ok=true)(j:st.at_<s.length)(t:st.aC<=9):iC s (c+1) st (dP s alt st).2/\Tr (d+1) (2*((dP s alt st).2.at_-st.at_)) (dP s alt st).1/\((dP s alt st).2.ok=true->st.at_+1<=(dP s alt st).2.at_):=by
 have v:iC s (c+1) st st:=iC.refl _ (Nat.le_of_lt j) t;have m:∀e b,e≠0->iC s (c+1) st (st.fail e b)/\Tr (d+1) (2*((st.fail e b).at_-st.at_)) []/\((st.fail e b).ok=true->st.at_+1<=(st.fail e b).at_):=
  fun e b u=>⟨v.fail u,Tr.eU,by rw[St.aW _ u];exact(fun h=>nomatch h)⟩;unfold dP;split
 .exact m _ _ (by decide)
 .split
  .rename_i _ h;have w:=dN (s:=s) (k:=2) (st:=st) (by omega);have p:=(iC.refl 0 (Nat.le_of_lt j) t).bump 3 w;have a:=pQ (n:=0) (st:=st.bump 3) f r i p;have z:(st.bump 3).at_=st.at_+3:=rfl;refine⟨a.1,a.2.1.mono (Int.le_refl _) ?_,fun _=>?_⟩
   .have:=a.2.2;omega
   .have:=a.2.2;omega
  .split
   .exact m _ _ (by decide)
   .split
    .exact m _ _ (by decide)
    .rename_i A;have p:iC s 0 st {st.bump 1 with aC:=st.aC+1}:=⟨Nat.le_add_right _ _,j,fun _=>j,rfl,Nat.le_add_right _ _,by show st.aC+1<=9;omega⟩;have a:=pQ (n:=st.aC+1) f r (st:={st.bump 1 with aC:=st.aC+1}) i p;have z:({st.bump 1 with aC:=st.aC+1}:St).at_=st.at_+1:=rfl;refine⟨a.1,a.2.1.mono (Int.le_refl _) ?_,fun _=>?_⟩
     .have:=a.2.2;omega
     .have:=a.2.2;omega
theorem zO{st:St}(e:dV s c d alt)(u:0<=d)(k:st.ok=true)(a:st.at_<s.length)(f:st.aC<=9):iC s (c+1) st (di s alt st).2/\Tr (d+1) (2*((di s alt st).2.at_-st.at_)) (di s alt st).1/\((di s alt st).2.ok=true->st.at_+1<=(di s alt st).2.at_):=by
 have r:iC s (c+1) st st:=iC.refl _ (Nat.le_of_lt a) f;have m:iC s (c+1) st (st.bump 1):=r.bump 1 a;have v:(st.bump 1).at_=st.at_+1:=rfl;unfold di;simp only;split
 .exact⟨r.fail (by decide),Tr.eU,by rw[St.aW _ (by decide)];exact(fun h=>nomatch h)⟩
 split
 .exact Dt e u k a f
 split
 .have w:=(iC.refl 0 (Nat.le_of_lt a) f).bump 1 a;have j:=xK (s:=s) (st:=st.bump 1) a f;have i:=NZ (s:=s) (st.bump 1);have t:=j.mono;exact⟨(m.trans (j.EO (by omega))),⟨by rw[i.1];omega,fun x p=>by have:=i.2 x p;omega⟩,fun _=>by omega⟩
 split
 .have j:=Bu (s:=s) a f;have i:=Le (s:=s) st;have t:=Jc (s:=s) st;exact⟨j.EO (by omega),⟨by have:=i.1;omega,fun x p=>by have:=i.2 x p;omega⟩,fun _=>t⟩
 split
 .exact⟨m,Tr.one rfl (by omega) (by dsimp only;omega),fun _=>by dsimp only;omega⟩
 .exact⟨m,Tr.one rfl (by omega) (by dsimp only;omega),fun _=>by dsimp only;omega⟩
theorem lV{st:St}(f:dV s c d alt)(t:0<=d)(j:st.ok=true)(k:st.at_<s.length)(p:st.aC<=9):iC s (c+1) st (bU s alt st).2/\Tr (d+2) (2*((bU s alt st).2.at_-st.at_)) (bU s alt st).1/\((bU s alt st).2.ok=true->st.at_+1<=(bU s alt st).2.at_):=by
 have u:iC s (c+1) st st:=iC.refl _ (Nat.le_of_lt k) p;have r:iC s (c+1) st (st.bump 1):=u.bump 1 k;have v:(st.bump 1).at_=st.at_+1:=rfl;unfold bU;simp only;split
 .exact⟨r,Tr.one rfl (by omega) (by dsimp only;omega),fun _=>by dsimp only;omega⟩
 split
 .exact⟨r,Tr.one rfl (by omega) (by dsimp only;omega),fun _=>by dsimp only;omega⟩
 have e:=zO f t j k p;generalize di s alt st=a at e;split
 .rename_i i;have w:=e.2.2 i;have m:=BC (s:=s) (e.1.yA i) e.1.dL (show 0<=d+1 by omega) e.2.1;have z:=m.1.mono;exact⟨e.1.trans (m.1.EO (by omega)),m.2.mono (by omega) (by omega),fun _=>by omega⟩
 .rename_i i;exact⟨e.1,Tr.eU,fun h=>absurd h i⟩
theorem xQ{x:Int}(h:fV x=false):x≠-1:=by rintro rfl;simp[fV]at h
theorem BP(f:dV s c d alt)(u:0<=d):∀(n:Nat)(a st:St)(items:List (List aA)),iC s (c+1) a st->s.length+1<=n+st.at_->(∀l∈items,∀x∈l,0<=x.deep/\x.deep<=d+2)->items.flatten.length<=2*(st.at_-a.at_)->iC s (c+1) a (bD s alt n st items).2/\Tr (d+3) (2*((bD s alt n st items).2.at_-a.at_)+1) (bD s alt n st items).1
|0,a,st,items,h,w,_,_=>⟨h,Tr.eU⟩
|n+1,a,st,items,h,w,hi,i=>by
 unfold bD;rcases r:st.ok with _|_
 .exact⟨h,Tr.eU⟩
 .rcases z:fV (aR s st 0)with _|_
  .simp only[if_true,Bool.false_eq_true,if_false];have A:=dN (s:=s) (k:=0) (st:=st) (xQ z);have j:=lV f u r A h.dL;have C:=j.1.mono;have B:=h.mono;have t:(items++[(bU s alt st).1]).flatten.length<=2*((bU s alt st).2.at_-a.at_):=by rw[List.flatten_append,List.length_append,List.flatten_singleton];have:=j.2.1.1;omega
   have m:∀l∈items++[(bU s alt st).1],∀x∈l,0<=x.deep/\x.deep<=d+2:=by
    intro l i x v;rcases List.mem_append.1 i with i|i
    .exact hi l i x v
    .simp at i;subst i;exact j.2.1.2 x v
   rcases p:(bU s alt st).2.ok with _|_
   .have e:bD s alt n (bU s alt st).2 (items++[(bU s alt st).1])=([],(bU s alt st).2):=by
     cases n with
     |zero=>rfl
     |succ n=>unfold bD;rw[p];rfl
    rw[e];exact⟨h.trans j.1,Tr.eU⟩
   .have D:=j.2.2 p;exact BP f u n a _ _ (h.trans j.1) (by omega) m t
  .simp only[if_true];refine⟨h,?_⟩;have:=oV (top:=node 0 0 0 false false []) rfl (show 0<=d+2 by omega) hi;exact this.mono (by omega) (by omega)
theorem jm(a:dV s c d alt)(e:0<=d){st:St}(f:st.at_<=s.length)(h:st.aC<=9):iC s (c+1) st (rowP s alt st).2/\Tr (d+3) (2*((rowP s alt st).2.at_-st.at_)+1) (rowP s alt st).1:=BP a e _ st st [] (iC.refl _ f h) (by omega) (by simp) (by simp)
theorem BQ(i:dV s c d alt)(r:0<=d):∀(n:Nat)(e st:St)(a:List (List aA)),iC s (c+1) e st->s.length+1<=n+st.at_\/st.ok=false->(∀l∈a,∀x∈l,0<=x.deep/\x.deep<=d+3)->1<=a.length->a.flatten.length<=2*(st.at_-e.at_)+1->iC s (c+1) e (bA s alt n st a).2/\(∀l∈(bA s alt n st a).1,∀x∈l,0<=x.deep/\x.deep<=d+3)/\1<=(bA s alt n st a).1.length/\(bA s alt n st a).1.flatten.length<=2*((bA s alt n st a).2.at_-e.at_)+1
|0,e,st,a,h,_,hi,p,f=>⟨h,hi,p,f⟩
|n+1,e,st,a,h,j,hi,p,f=>by
 unfold bA;split
 .rename_i t;simp only[Bool.and_eq_true,decide_eq_true_eq]at t;have u:=dN (s:=s) (k:=0) (st:=st) (by omega);have v:=h.bump 1 u;have z:(st.bump 1).at_=st.at_+1:=rfl;have m:=jm i r (st:=st.bump 1) u v.dL;have B:=m.1.mono;have A:=h.mono;refine BQ i r n e _ _ (v.trans m.1) ?_ ?_ ?_ ?_
  .rcases j with j|j
   .left;omega
   .rw[t.1]at j;cases j
  .intro l f x w;rcases List.mem_append.1 f with f|f
   .exact hi l f x w
   .simp at f;subst f;exact m.2.2 x w
  .simp
  .rw[List.flatten_append,List.length_append,List.flatten_singleton];have:=m.2.1;omega
 .exact⟨h,hi,p,f⟩
theorem Ij(a:dV s c d alt)(j:0<=d):dV s (c+1) (d+4) (oD s alt):=by
 intro st m p r;have h:=jm a j (st:=st) p r;have e:=BQ a j (s.length+2-(rowP s alt st).2.at_) st (rowP s alt st).2 [(rowP s alt st).1] h.1 (by
  rcases t:(rowP s alt st).2.ok with _|_
  .right;rfl
  .left;have:=h.1.yA t;omega) (by intro l k x f;simp at k;subst k;exact h.2.2 x f) (by simp) (by simpa using h.2.1);unfold oD;simp only;generalize bA s alt (s.length+2-(rowP s alt st).2.at_) (rowP s alt st).2 [(rowP s alt st).1]=q at e⊢;refine⟨e.1,?_⟩;obtain⟨_,i,z,u⟩:=e;split
 .rename_i v;match w:q.1,v with
  |[l],_=>
   rw[w]at i u;exact⟨by
    have:(List.flatten [l]).length=l.length:=by simp
    simp only[List.headD];omega,fun x f=>by have:=i l (by simp) x f;omega⟩
 .have:=oV (top:=node 1 0 0 false false []) rfl (show 0<=d+3 by omega) i;exact this.mono (by omega) (by omega)
theorem rH(s:List Int):∀n,dV s (n+2) (4*n+4) (gV s n)
|0=>(Ij (c:=1) (d:=0) dV.stub (by decide)).weak (by omega) (by decide)
|n+1=>by have:=Ij (rH s n) (by omega);exact this.weak (by omega) (by push_cast;omega)
end
def kids(d:Int):List aA->Nat
|[]=>0
|x::r=>if d<x.deep then(if x.deep=d+1 then 1 else 0)+kids d r else 0
def after(n:Int)(x:aA):Int:=if x.kind=5 then max n x.lo else n
def last(n:Int):List aA->Int
|[]=>n
|x::r=>last (after n x) r
def lift(d:Int)(x:aA):aA:={x with deep:=x.deep+d}
def Shut(d:Int):List aA->Prop
|[]=>True
|x::_=>x.deep<=d
mutual
 inductive WF:List aA->Int->Int->Prop
|leaf(x:aA)(a:Int):0<=a->x.deep=0->(x.kind=3\/x.kind=4\/(x.kind=2/\0<x.set.length/\x.set.length%2=0))->WF [x] a a
|seq(x:aA)(ls:List (List aA))(a b:Int):x.deep=0->x.kind=0->FP ls a b->WF (under x ls) a b
|alt(x:aA)(ls:List (List aA))(a b:Int):x.deep=0->x.kind=1->2<=ls.length->FP ls a b->WF (under x ls) a b
|rep(x:aA)(l:List aA)(a b:Int):x.deep=0->x.kind=6->(0<=x.hi->x.lo<=x.hi)->WF l a b->WF (under x [l]) a b
|mP(x:aA)(l:List aA)(a b:Int):x.deep=0->x.kind=5->x.lo=0->WF l a b->WF (under x [l]) a b
|num(x:aA)(l:List aA)(a b:Int):0<=a->x.deep=0->x.kind=5->x.lo=a+1->WF l (a+1) b->WF (under x [l]) a b
 inductive FP:List (List aA)->Int->Int->Prop
|nil(a:Int):0<=a->FP [] a a
|cons(l:List aA)(ls:List (List aA))(a b c:Int):WF l a b->FP ls b c->FP (l::ls) a c
end
theorem FP.one{l:List aA}{a b:Int}(h:WF l a b)(d:0<=b):FP [l] a b:=.cons l [] a b b h (.nil b d)
theorem Shut.mono{d e:Int}{l:List aA}(h:Shut d l)(a:d<=e):Shut e l:=by
 cases l with
 |nil=>trivial
 |cons x r=>exact Int.le_trans h a
def FX(l:List aA):Prop:=∃x r,l=x::r/\x.deep=0/\∀y∈r,1<=y.deep
theorem ou{x:aA}{ls:List (List aA)}(h:x.deep=0)(e:∀l∈ls,FX l):FX (under x ls):=by
 refine⟨x,_,rfl,h,fun y f=>?_⟩;obtain⟨z,a,rfl⟩:=List.mem_map.1 f;obtain⟨l,d,a⟩:=List.mem_flatten.1 a;obtain⟨t,r,rfl,j,i⟩:=e l d;rcases List.mem_cons.1 a with rfl|a
 .show 1<=z.deep+1;omega
 .have:=i z a;show 1<=z.deep+1;omega
theorem jy{d:Int}(x:aA)(ls:List (List aA)):(under x ls).map (lift d)=lift d x::(ls.flatten.map (lift (d+1))):=by unfold under;rw[List.map_cons,List.map_map];congr 1;apply List.map_congr_left;intro y _;show({y with deep:=y.deep+1+d}:aA)={y with deep:=y.deep+(d+1)};congr 1;omega
theorem qb(x:aA)(l:List aA):groups (x::l)=(if x.kind=5/\0<x.lo then 1 else 0)+groups l:=by
 unfold groups;by_cases h:x.kind=5/\0<x.lo
 .rw[if_pos h,List.filter_cons_of_pos (by simp[h.1,h.2])];simp;omega
 .rw[if_neg h,List.filter_cons_of_neg (by simpa using h)];simp
theorem Gi(l m:List aA):groups (l++m)=groups l+groups m:=by unfold groups;rw[List.filter_append,List.length_append]
theorem Lg(l:List aA):groups (l.map aA.down)=groups l:=by
 induction l with
 |nil=>rfl
 |cons x l a=>rw[List.map_cons,qb,qb,a];rfl
structure Base(l:List aA)(a b:Int):Prop where
 top:FX l
 lo:0<=a
 le:a<=b
 mP:(groups l:Int)=b-a
structure Vt(ls:List (List aA))(a b:Int):Prop where
 top:∀l∈ls,FX l
 lo:0<=a
 le:a<=b
 mP:(groups ls.flatten:Int)=b-a
theorem rz{x:aA}{ls:List (List aA)}{a f b:Int}(i:x.deep=0)(h:Vt ls f b)(j:0<=a)(k:f=a+(if x.kind=5/\0<x.lo then 1 else 0)):Base (under x ls) a b:=by
 have p:=h.mP;have m:=h.le;have e:(groups (under x ls):Int)=(if x.kind=5/\0<x.lo then 1 else 0)+(groups ls.flatten:Int):=by
  unfold under;rw[qb,Lg];by_cases d:x.kind=5/\0<x.lo
  .rw[if_pos d,if_pos d];push_cast;rfl
  .rw[if_neg d,if_neg d];push_cast;rfl
 by_cases d:x.kind=5/\0<x.lo
 .rw[if_pos d]at k e;exact⟨ou i h.top,j,by omega,by omega⟩
 .rw[if_neg d]at k e;exact⟨ou i h.top,j,by omega,by omega⟩
theorem ER{l:List aA}{a b:Int}(h:Base l a b):Vt [l] a b:=⟨by intro m d;simp at d;subst d;exact h.top,h.lo,h.le,by simpa using h.mP⟩
mutual theorem gm:∀{l:List aA}{a b:Int},WF l a b->Base l a b
|_,_,_,.leaf x a ha h0 hk=>⟨⟨x,[],rfl,h0,by simp⟩,ha,Int.le_refl _,by rw[qb,if_neg (by rintro⟨h1,_⟩;rcases hk with h|h|h<;>omega)];simp[groups]⟩
|_,_,_,.seq x ls a b h0 hk h=>rz h0 (jI h) (jI h).lo (by rw[if_neg (by rintro⟨h1,_⟩;omega)];omega)
|_,_,_,.alt x ls a b h0 hk _ h=>rz h0 (jI h) (jI h).lo (by rw[if_neg (by rintro⟨h1,_⟩;omega)];omega)
|_,_,_,.rep x l a b h0 hk _ h=>rz h0 (ER (gm h)) (gm h).lo (by rw[if_neg (by rintro⟨h1,_⟩;omega)];omega)
|_,_,_,.mP x l a b h0 hk hl h=>rz h0 (ER (gm h)) (gm h).lo (by rw[if_neg (by rintro⟨_,h1⟩;omega)];omega)
|_,_,_,.num x l a b ha h0 hk hl h=>rz h0 (ER (gm h)) ha (by rw[if_pos ⟨hk,by omega⟩])
 theorem jI:∀{ls:List (List aA)}{a b:Int},FP ls a b->Vt ls a b
|_,_,_,.nil a ha=>⟨by simp,ha,Int.le_refl _,by simp[groups]⟩
|_,_,_,.cons l ls a b c h hs=>by
 have h1:=gm h;have h2:=jI hs;refine⟨?_,h1.lo,Int.le_trans h1.le h2.le,?_⟩
 .intro m hm;rcases List.mem_cons.1 hm with rfl|hm
  .exact h1.top
  .exact h2.top m hm
 .rw[List.flatten_cons,Gi];have:=h1.mP;have:=h2.mP;push_cast;omega
end
section
variable{s:List Int}
theorem qc(st:St):(member s st).2.2.aC=st.aC:=by
 unfold member;simp only;split
 .exact St.iI _ _ _
 .split
  .split
   .rw[St.iI];rfl
   .rfl
  .rfl
theorem xB(st:St):(aO s st).2.aC=st.aC:=by
 unfold aO;split
 .show(member s ((member s st).2.2.bump 1)).2.2.aC=_;rw[qc];exact qc st
 .exact qc st
theorem Cz(st:St)(set:List Int):(bG s st set).2.aC=st.aC:=by
 rcases a:(member s st).2.1 with _|l
 .rw[eD a];simp only;split
  .rw[St.iI];exact xB st
  .exact xB st
 .rw[gT a];exact qc st
theorem uN:∀(n:Nat)(st:St)(set:List Int),(dw s n st set).2.aC=st.aC
|0,_,_=>rfl
|n+1,st,set=>by
 rcases a:(st.ok&&(set.isEmpty||decide (aR s st 0≠93)))with _|_
 .rw[dR a]
 .rw[gY a,uN n,Cz]
theorem Lh(st:St):(gZ s st).2.aC=st.aC:=by unfold gZ;simp only;show(dw _ _ _ _).2.aC=_;rw[uN];split<;>rfl
theorem Jd(st:St):(bL s st).2.aC=st.aC:=by
 unfold bL;simp only;split
 .rfl
 .split
  .rfl
  .split
   .rfl
   .rw[St.iI];rfl
theorem Hq(st:St):(must s st).2.aC=st.aC:=by
 unfold must;split
 .exact St.iI _ _ _
 .rfl
theorem R7(lo:Int)(st:St):(high s lo st).2.aC=st.aC:=by
 unfold high;split
 .split
  .rw[Hq];rfl
  .rfl
 .rfl
theorem zy{p:Prop} [Decidable p]{a b:St}{c:Nat}(d:a.aC=c)(e:b.aC=c):(if p then a else b).aC=c:=by split<;>assumption
theorem Li(st:St):(bounds s st).2.2.aC=st.aC:=by
 have h:(high s (must s (st.bump 1)).1 (must s (st.bump 1)).2).2.aC=st.aC:=by rw[R7,Hq];rfl
 unfold bounds;simp only;refine zy ?_ ?_
 .rw[St.iI];exact zy (a:=St.fail _ _ _) (by rw[St.iI];exact h) h
 .exact zy (a:=St.fail _ _ _) (by rw[St.iI];exact h) h
theorem N9{st:St}(h:(bounds s st).2.2.ok=true):0<=(bounds s st).2.1->(bounds s st).1<=(bounds s st).2.1:=by
 intro a;unfold bounds at h a⊢;simp only at h a⊢;generalize high s (must s (st.bump 1)).1 (must s (st.bump 1)).2=b at h a⊢;generalize(must s (st.bump 1)).1=lo at h⊢;generalize(if b.2.ok=true/\aR s b.2 0≠125 then b.2.fail 5 b.2.at_ else b.2).bump 1=d at h;split at h
 .rw[St.aW _ (by decide)]at h;cases h
 .rename_i e;by_cases f:b.1<lo
  .exact absurd ⟨h,a,f⟩ e
  .omega
theorem Lj{st a:St}{lo hi:Int}(h:eP s st=some (lo,hi,a)):a.aC=st.aC/\(a.ok=true->0<=hi->lo<=hi):=by
 unfold eP at h;simp only at h;split at h;rotate_left;focus
  split at h;rotate_left;focus
   split at h;rotate_left
   .split at h
    .injection h with h;injection h with d h;injection h with e h;subst h d e;exact⟨Li st,N9⟩
    .cases h
  rotate_left
 rotate_left 2;all_goals
  injection h with h;injection h with d h;injection h with e h;subst h d e;exact⟨rfl,fun _ h=>by omega⟩
theorem Oa{st:St}{d:List aA}{a b:Int}(j:WF d a b)(e:(cK s d st).2.ok=true):WF (cK s d st).1 a b/\(cK s d st).2.aC=st.aC:=by
 unfold cK at e⊢;rcases k:eP s st with _|⟨lo,hi,i⟩
 .exact⟨j,rfl⟩
 .rw[k]at e;simp only at e⊢;have h:=Lj k;have f:i.ok=true:=by split at e<;>exact e
  refine⟨.rep _ _ _ _ rfl rfl (h.2 f) j,?_⟩;split
  .exact h.1
  .exact h.1
theorem AX{a:Int}(h:0<=a)(d:Bool){set:List Int}(e:0<set.length)(f:set.length%2=0):WF [node 2 0 0 false d set] a a:=.leaf _ a h rfl (.inr (.inr ⟨rfl,e,f⟩))
theorem Ob{st:St}{a:Int}(e:0<=a)(d:(bL s st).2.ok=true):WF (bL s st).1 a a:=by
 unfold bL at d⊢;simp only at d⊢;split at d
 .rename_i l h;have:=uL h;exact AX e _ (by omega) this.2.2
 .split at d
  .rename_i l f;have:=uL f;exact AX e _ (by omega) this.2.2
  .split at d
   .exact AX e _ (by simp) (by simp)
   .rw[St.aW _ (by decide)]at d;cases d
theorem R8{st:St}{a:Int}(m:0<=a)(i:st.at_<=s.length)(j:st.aC<=9)(d:(gZ s st).2.ok=true):WF (gZ s st).1 a a:=by
 unfold gZ at d⊢;simp only at d⊢;have f:iC s 0 st (if decide (aR s st 0=94)=true then st.bump 1 else st):=by
  split
  .rename_i h;have h:aR s st 0=94:=of_decide_eq_true h;exact(iC.refl 0 i j).bump 1 (dN (k:=0) (by omega))
  .exact iC.refl 0 i j
 generalize(if decide (aR s st 0=94)=true then st.bump 1 else st)=e at f d⊢;have p:=qF (s:=s) (s.length+2-e.at_) (set:=[]) f.hi f.dL (by omega) d;have r:=(qE (s:=s) (s.length+2-e.at_) e []).2;refine AX m _ ?_ r;exact List.length_pos_iff.2 p.2
def BR(s:List Int)(alt:St->List aA×St)(o:Nat):Prop:=∀st:St,st.op=o->st.ok=true->st.at_<=s.length->st.aC<=9->(alt st).2.ok=true->WF (alt st).1 st.aC (alt st).2.aC
variable{o:Nat}{d:Int}{alt:St->List aA×St}
theorem ES{n:Int}{st:St}{a:Int}(i:BR s alt (o+1))(p:st.op=o)(j:st.ok=true)(t:st.at_<=s.length)(u:st.aC<=9)(f:(dU s alt n st).2.ok=true)(h:n=0/\(st.aC:Int)=a\/0<=a/\n=a+1/\(st.aC:Int)=a+1):WF (dU s alt n st).1 a (dU s alt n st).2.aC:=by
 have k:=i {st with op:=st.op+1} (by show st.op+1=_;omega) j t u;unfold dU at f⊢;simp only at f⊢;generalize alt {st with op:=st.op+1}=r at k f⊢;have v:r.2.ok=true:=by
  rcases w:r.2.ok with _|_
  .have e:({r.2 with op:=r.2.op-1}:St).ok=false:=w;generalize({r.2 with op:=r.2.op-1}:St)=q at e f;split at f
   .have:(q.fail 5 r.2.at_).ok=true:=f;rw[St.aW _ (by decide)]at this;cases this
   .have:q.ok=true:=f;rw[e]at this;cases this
  .rfl
 have m:=k v;have z:((if({r.2 with op:=r.2.op-1}:St).ok=true/\aR s {r.2 with op:=r.2.op-1} 0≠41 then({r.2 with op:=r.2.op-1}:St).fail 5 r.2.at_ else{r.2 with op:=r.2.op-1}).bump 1).aC=r.2.aC:=by show(if _ then _ else _:St).aC=_;exact zy (by rw[St.iI]) rfl
 rw[z];rcases h with⟨rfl,h⟩|⟨A,rfl,h⟩
 .exact .mP _ _ _ _ rfl rfl rfl (h▸m)
 .exact .num _ _ _ _ A rfl rfl rfl (h▸m)
theorem R9{st:St}(e:o<12->BR s alt (o+1))(f:st.op=o)(h:st.ok=true)(j:st.at_<s.length)(m:st.aC<=9)(a:(dP s alt st).2.ok=true):WF (dP s alt st).1 st.aC (dP s alt st).2.aC:=by
 unfold dP at a⊢;split at a
 .rw[St.aW _ (by decide)]at a;cases a
 .rename_i p;rw[if_neg p];split at a
  .rename_i i;rw[if_pos i];have r:=dN (s:=s) (k:=2) (st:=st) (by omega);exact ES (st:=st.bump 3) (e (by omega)) f h r m a (.inl ⟨rfl,rfl⟩)
  .rename_i i;rw[if_neg i];split at a
   .rw[St.aW _ (by decide)]at a;cases a
   .rename_i t;rw[if_neg t];split at a
    .rw[St.aW _ (by decide)]at a;cases a
    .rename_i u;rw[if_neg u];exact ES (st:={st.bump 1 with aC:=st.aC+1}) (e (by omega)) f h j (by show st.aC+1<=9;omega) a (.inr ⟨by omega,rfl,by push_cast;rfl⟩)
theorem Vu{st:St}(e:o<12->BR s alt (o+1))(f:st.op=o)(h:st.ok=true)(m:st.at_<s.length)(p:st.aC<=9)(a:(di s alt st).2.ok=true):WF (di s alt st).1 st.aC (di s alt st).2.aC:=by
 unfold di at a⊢;simp only at a⊢;split at a
 .rw[St.aW _ (by decide)]at a;cases a
 rename_i r;rw[if_neg r];split at a
 .rename_i i;rw[if_pos i];exact R9 e f h m p a
 rename_i i;rw[if_neg i];split at a
 .rename_i j;rw[if_pos j];rw[Lh];exact R8 (st:=st.bump 1) (by omega) m p a
 rename_i j;rw[if_neg j];split at a
 .rename_i k;rw[if_pos k];rw[Jd];exact Ob (by omega) a
 rename_i k;rw[if_neg k];split
 .exact AX (by omega) _ (by decide) rfl
 .exact AX (by omega) _ (by simp) (by simp)
theorem Vv{st:St}(e:o<12->BR s alt (o+1))(i:st.op=o)(j:st.ok=true)(p:st.at_<s.length)(r:st.aC<=9)(a:(bU s alt st).2.ok=true):WF (bU s alt st).1 st.aC (bU s alt st).2.aC:=by
 unfold bU at a⊢;simp only at a⊢;split at a
 .rename_i k;rw[if_pos k];exact .leaf _ _ (by omega) rfl (.inl rfl)
 rename_i k;rw[if_neg k];split at a
 .rename_i m;rw[if_pos m];exact .leaf _ _ (by omega) rfl (.inr (.inl rfl))
 rename_i m;rw[if_neg m];split at a
 .rename_i f;rw[if_pos f];have h:=Oa (Vu e i j p r f) a;rw[h.2];exact h.1
 .rename_i f;exact absurd a f
theorem FP.snoc:∀{ls:List (List aA)}{a b c:Int}{l:List aA},FP ls a b->WF l b c->FP (ls++[l]) a c
|_,_,_,_,_,.nil a h,e=>.cons _ [] _ _ _ e (.nil _ (by have:=gm e;exact Int.le_trans this.lo this.le))
|_,_,_,_,_,.cons m i a b c h f,e=>.cons m _ _ _ _ h (FP.snoc f e)
def Qo(l:List aA):Prop:=∃items,l=under (node 0 0 0 false false []) items
theorem EU{cc:Nat}(j:o<12->BR s alt (o+1))(v:dV s cc d alt)(w:0<=d):∀(n:Nat)(st:St)(items:List (List aA))(a:Int),st.op=o->st.at_<=s.length\/st.ok=false->st.aC<=9->(st.ok=true->FP items a st.aC)->s.length+1<=n+st.at_\/st.ok=false->(bD s alt n st items).2.ok=true->WF (bD s alt n st items).1 a (bD s alt n st items).2.aC/\Qo (bD s alt n st items).1
|0,st,items,a,_,m,_,_,p,i=>by
 have i:st.ok=true:=i;rcases m with m|m
 .rcases p with p|p
  .omega
  .rw[i]at p;cases p
 .rw[i]at m;cases m
|n+1,st,items,a,r,m,z,A,p,i=>by
 rcases f:st.ok with _|_
 .have e:bD s alt (n+1) st items=([],st):=by unfold bD;rw[f];rfl
  rw[e]at i;have i:st.ok=true:=i;rw[f]at i;cases i
 .have m:st.at_<=s.length:=by rcases m with h|h;exact h;rw[f]at h;cases h
  have p:s.length+1<=n+1+st.at_:=by rcases p with h|h;exact h;rw[f]at h;cases h
  unfold bD at i⊢;rw[f]at i⊢;simp only[if_true]at i⊢;rcases B:fV (aR s st 0)with _|_
  .rw[B]at i;simp only[Bool.false_eq_true,if_false]at i⊢;have t:=dN (s:=s) (k:=0) (st:=st) (xQ B);have u:=lV v w f t z;refine EU j v w n _ _ a (u.1.op.trans r) ?_ u.1.dL (fun h=>(A f).snoc (Vv j r f t z h)) ?_ i
   .rcases h:(bU s alt st).2.ok with _|_
    .exact .inr rfl
    .exact .inl (u.1.yA h)
   .rcases h:(bU s alt st).2.ok with _|_
    .exact .inr rfl
    .left;have:=u.2.2 h;omega
  .exact⟨.seq _ _ _ _ rfl rfl (A f),_,rfl⟩
theorem Qp{cc:Nat}(a:o<12->BR s alt (o+1))(f:dV s cc d alt)(h:0<=d){st:St}(e:st.op=o)(i:st.at_<=s.length)(j:st.aC<=9)(k:(rowP s alt st).2.ok=true):WF (rowP s alt st).1 st.aC (rowP s alt st).2.aC/\Qo (rowP s alt st).1:=EU a f h _ st [] _ e (.inl i) j (fun _=>.nil _ (by omega)) (by left;omega) k
theorem EW{cc:Nat}(f:o<12->BR s alt (o+1))(w:dV s cc d alt)(z:0<=d):∀(n:Nat)(st:St)(e:List (List aA))(a:Int),st.op=o->st.aC<=9->1<=e.length->(st.ok=true->FP e a st.aC/\∀l∈e,Qo l)->(bA s alt n st e).2.ok=true->FP (bA s alt n st e).1 a (bA s alt n st e).2.aC/\(∀l∈(bA s alt n st e).1,Qo l)/\1<=(bA s alt n st e).1.length
|0,_,_,_,_,_,A,j,i=>⟨(j i).1,(j i).2,A⟩
|n+1,st,e,a,p,B,A,j,i=>by
 unfold bA at i⊢;split at i
 .rename_i r;rw[if_pos r];simp only[Bool.and_eq_true,decide_eq_true_eq]at r;have t:=dN (s:=s) (k:=0) (st:=st) (by omega);have C:=jm w z (st:=st.bump 1) t B;refine EW f w z n _ _ a (C.1.op.trans p) C.1.dL (by simp) (fun h=>?_) i;have u:=j r.1;have v:=Qp f w z (st:=st.bump 1) p t B h;refine⟨u.1.snoc v.1,fun l m=>?_⟩;rcases List.mem_append.1 m with m|m
  .exact u.2 l m
  .simp at m;subst m;exact v.2
 .rename_i r;rw[if_neg r];exact⟨(j i).1,(j i).2,A⟩
def Vw(l:List aA):Prop:=∃x r,l=x::r/\(x.kind=0\/x.kind=1)
theorem Qq{cc:Nat}(a:o<12->BR s alt (o+1))(k:dV s cc d alt)(m:0<=d){st:St}(e:st.op=o)(r:st.at_<=s.length)(t:st.aC<=9)(i:(oD s alt st).2.ok=true):WF (oD s alt st).1 st.aC (oD s alt st).2.aC/\Vw (oD s alt st).1:=by
 have u:=jm k m (st:=st) r t;have h:=EW a k m (s.length+2-(rowP s alt st).2.at_) (rowP s alt st).2 [(rowP s alt st).1] st.aC (u.1.op.trans e) u.1.dL (by simp) (fun h=>by have f:=Qp a k m e r t h;exact⟨FP.one f.1 (by omega),by intro l j;simp at j;subst j;exact f.2⟩);unfold oD at i⊢;simp only at i⊢;generalize bA s alt (s.length+2-(rowP s alt st).2.at_) (rowP s alt st).2 [(rowP s alt st).1]=q at h i⊢;obtain⟨p,v,B⟩:=h i;split
 .rename_i j;match w:q.1,j with
  |[l],_=>
   rw[w]at p v;obtain⟨items,hi⟩:=v l (by simp);cases p with
   |cons _ _ _ b _ z A=>
    cases A with
    |nil _ _=>exact⟨z,by simp only[List.headD];rw[hi];exact⟨_,_,rfl,.inl rfl⟩⟩
 .exact⟨.alt _ _ _ _ rfl rfl (by omega) p,_,_,rfl,.inr rfl⟩
theorem Qs(s:List Int):∀(n:Nat)(st:St),st.op+n=12->st.ok=true->st.at_<=s.length->st.aC<=9->(gV s n st).2.ok=true->WF (gV s n st).1 st.aC (gV s n st).2.aC/\Vw (gV s n st).1
|0,st,r,_,e,f,i=>Qq (o:=st.op) (cc:=0) (d:=0) (fun h=>by omega) dV.stub (by decide) rfl e f i
|n+1,st,r,_,e,f,i=>Qq (o:=st.op) (fun _ j t a k m p=>(Qs s n j (by omega) a k m p).1) (rH s n) (by omega) rfl e f i
theorem yD{s:List Int}{l:List aA}{p:Int}(h:parse s=(l,0,p)):∃b,WF l 0 b/\Vw l:=by
 unfold parse at h;split at h
 .injection h with _ h;injection h with h _;omega
 .split at h
  .injection h with _ h;injection h with h _;omega
  .simp only at h;obtain⟨r,f⟩:∃r,gV s 12 ⟨0,0,0,0,0⟩=r:=⟨_,rfl⟩;rw[f]at h;generalize i:(if r.2.ok=true/\r.2.at_<s.length then r.2.fail 5 r.2.at_ else r.2)=e at h;by_cases a:e.ok=true
   .rw[if_pos a]at h;injection h with j _;have k:r.2.ok=true:=by
     rw[<-i]at a;split at a
     .rw[St.aW _ (by decide)]at a;cases a
     .exact a
    have:=Qs s 12 ⟨0,0,0,0,0⟩ rfl rfl (Nat.zero_le _) (by decide) (by rw[f];exact k);rw[f,j]at this;exact⟨_,this.1,this.2⟩
   .rw[if_neg a]at h;injection h with _ h;injection h with h _;exact absurd (show e.ok=true by unfold St.ok;rw[h];rfl) a
end
end RX
namespace PG
open RX(aA)
structure aD where
 op:Int
 x:Int
 y:Int
 neg:Bool
 set:List Int
structure Part where
 l:List aD
 n:Nat
def one(l:List aD):Part:=⟨l,l.length⟩
def moved(k:Int)(i:aD):aD:=if i.op=4 then{i with x:=i.x+k,y:=i.y+k}else if i.op=5 then{i with x:=i.x+k}else i
def za:Part->List Part->Part
|out,[]=>out
|out,p::ps=>if 301<=out.n+p.n then⟨[],301⟩else za ⟨out.l++p.l.map (moved out.l.length),out.n+p.n⟩ ps
def row(ps:List Part):Part:=za ⟨[],0⟩ ps
def split(far:Int)(lazy:Bool):Part:=one [if lazy then⟨4,far,1,false,[]⟩else⟨4,1,far,false,[]⟩]
def jump(far:Int):Part:=one [⟨5,far,0,false,[]⟩]
def save(x:Int):Part:=one [⟨3,x,0,false,[]⟩]
def either:List Part->Part
|[]=>⟨[],0⟩
|[p]=>p
|p::q::ps=>row [split (p.n+2) false,p,jump ((either (q::ps)).n+1),either (q::ps)]
def many(p:Part)(n:Nat):Part:=if p.n=0 then⟨[],0⟩else row (List.replicate n p)
def nD(p:Part)(lazy:Bool):Nat->Part->Part
|0,out=>out
|n+1,out=>nD p lazy n (row [split (1+p.n+out.n) lazy,p,out])
def maybe(p:Part)(n:Nat)(lazy:Bool):Part:=nD p lazy (if p.n=301 then min n 1 else n) ⟨[],0⟩
def loop(p:Part)(lazy:Bool):Part:=row [split (p.n+2) lazy,p,jump (-(p.n:Int)-1)]
def kids:Nat->List aA->List (List aA)
|0,_=>[]
|_+1,[]=>[]
|n+1,x::r=>(x::r.takeWhile fun y=>decide (x.deep<y.deep))::kids n (r.dropWhile fun y=>decide (x.deep<y.deep))
def iV(x:aA)(ins:List Part):Part:=if x.kind=0 then row ins
 else if x.kind=1 then either ins
 else if x.kind=2 then one [⟨0,0,0,x.neg,x.set⟩]
 else if x.kind=3 then one [⟨1,0,0,false,[]⟩]
 else if x.kind=4 then one [⟨2,0,0,false,[]⟩]
 else if x.kind=5 then(if 0<x.lo then row [save (2*x.lo),ins.headD ⟨[],0⟩,save (2*x.lo+1)]else ins.headD ⟨[],0⟩)
 else if x.hi<0 then row [many (ins.headD ⟨[],0⟩) x.lo.toNat,loop (ins.headD ⟨[],0⟩) x.lazy]
 else row [many (ins.headD ⟨[],0⟩) x.lo.toNat,maybe (ins.headD ⟨[],0⟩) (x.hi-x.lo).toNat x.lazy]
def tree:Nat->List aA->Part
|0,_=>⟨[],0⟩
|_+1,[]=>⟨[],0⟩
|n+1,x::r=>iV x ((kids r.length r).map (tree n))
def whole(l:List aA):Part:=row [save 0,tree l.length l,save 1,one [⟨6,0,0,false,[]⟩]]
def compile(s:List Int):List aD×Int×Int:=match RX.parse s with
|(l,c,p)=>if c=0 then(if 300<(whole l).n then([],3,s.length)else((whole l).l,0,0))else([],c,p)
def wK(p:Part):Prop:=(p.n<301/\p.l.length=p.n)\/(p.n=301/\p.l=[])
theorem mO{l:List aD}(h:l.length<301):wK (one l):=.inl ⟨h,rfl⟩
theorem sF(far:Int)(lz:Bool):wK (split far lz):=mO (by simp)
theorem AB(far:Int):wK (jump far):=mO (by simp)
theorem Ag(x:Int):wK (save x):=mO (by simp)
def flat:Nat->List Part->List aD
|_,[]=>[]
|k,p::ps=>p.l.map (moved k)++flat (k+p.n) ps
def total(ps:List Part):Nat:=(ps.map Part.n).foldr (·+·) 0
theorem KQ:∀(a:List Part)(k:Nat),(∀p∈a,p.l.length=p.n)->(flat k a).length=total a
|[],_,_=>rfl
|p::a,k,h=>by rw[flat,List.length_append,List.length_map,h p (by simp),KQ a _ (fun q d=>h q (by simp[d]))];rfl
theorem Qa:∀(d:List Part)(a:Part),a.l.length=a.n->a.n<301->(∀p∈d,wK p)->(a.n+total d<301->za a d=⟨a.l++flat a.n d,a.n+total d⟩/\∀p∈d,p.l.length=p.n)/\(301<=a.n+total d->za a d=⟨[],301⟩)
|[],a,h,t,_=>⟨fun _=>⟨by simp[za,flat,total],by simp⟩,fun f=>by simp[total]at f;omega⟩
|p::d,a,h,t,j=>by
 have u:total (p::d)=p.n+total d:=rfl;rw[u];rw[za];by_cases k:301<=a.n+p.n
 .rw[if_pos k];exact⟨fun f=>by omega,fun _=>rfl⟩
 .rw[if_neg k];have i:p.l.length=p.n:=by
   rcases j p (by simp)with m|m
   .exact m.2
   .omega
  have r:=Qa d ⟨a.l++p.l.map (moved a.l.length),a.n+p.n⟩ (by simp only[List.length_append,List.length_map];omega) (by show a.n+p.n<301;omega) (fun q e=>j q (by simp[e]));refine⟨fun f=>?_,fun f=>r.2 (by show 301<=a.n+p.n+total d;omega)⟩;have s:=r.1 (by show a.n+p.n+total d<301;omega);refine⟨?_,fun q e=>?_⟩
  .rw[s.1];simp only[flat,List.append_assoc,h,Nat.add_assoc]
  .rcases List.mem_cons.1 e with rfl|e
   .exact i
   .exact s.2 q e
theorem Dx{a:List Part}(d:∀p∈a,wK p):(total a<301->row a=⟨flat 0 a,total a⟩/\∀p∈a,p.l.length=p.n)/\(301<=total a->row a=⟨[],301⟩):=by have h:=Qa a ⟨[],0⟩ rfl (by decide) d;simp only[Nat.zero_add,List.nil_append]at h;exact h
theorem JX{a:List Part}(f:∀p∈a,wK p):wK (row a):=by
 have h:=Dx f;by_cases d:total a<301
 .have e:=h.1 d;rw[e.1];exact .inl ⟨d,KQ a 0 e.2⟩
 .rw[h.2 (by omega)];exact .inr ⟨rfl,rfl⟩
def KR(g n:Nat)(i:Nat)(x:aD):Prop:=(x.op=4->0<=x.x/\x.x<=n/\0<=x.y/\x.y<=n/\(x.x=x.y->x.x=i+1))/\(x.op=5->0<=x.x/\x.x<=n)/\(x.op=3->0<=x.x/\x.x<=2*g+1)/\(x.op=0->x.set≠[]/\x.set.length%2=0)/\0<=x.op/\x.op<=5
def Ok(g:Nat)(p:Part):Prop:=wK p/\∀i x,p.l[i]?=some x->KR g p.n i x
theorem gI(k:Int)(x:aD):(moved k x).op=x.op:=by unfold moved;split;rfl;split<;>rfl
theorem rq(k:Int)(x:aD):(moved k x).set=x.set:=by unfold moved;split;rfl;split<;>rfl
theorem KR.moved{g n m i k:Nat}{x:aD}(h:KR g n i x)(s:k+n<=m):KR g m (k+i) (moved k x):=by
 obtain⟨d,e,f,j,p,r⟩:=h;refine⟨fun a=>?_,fun a=>?_,fun a=>?_,fun a=>?_,by rw[gI];exact p,by rw[gI];exact r⟩
 .rw[gI]at a;have:=d a;unfold PG.moved;rw[if_pos a];simp only;push_cast;omega
 .rw[gI]at a;have:=e a;unfold PG.moved;rw[if_neg (by omega),if_pos a];simp only;omega
 .rw[gI]at a;have:=f a;unfold PG.moved;rw[if_neg (by omega),if_neg (by omega)];exact this
 .rw[gI]at a;rw[rq];exact j a
def At(g m k:Nat)(p:Part):Prop:=wK p/\∀i x,p.l[i]?=some x->KR g m (k+i) (moved k x)
theorem Ok.at_{g m k:Nat}{p:Part}(h:Ok g p)(a:k+p.n<=m):At g m k p:=⟨h.1,fun i x d=>(h.2 i x d).moved a⟩
def Qd(g m:Nat):Nat->List Part->Prop
|_,[]=>True
|k,p::ps=>At g m k p/\Qd g m (k+p.n) ps
theorem Ey{g m:Nat}:∀(a:List Part)(k:Nat),Qd g m k a->(∀p∈a,p.l.length=p.n)->∀i x,(flat k a)[i]?=some x->KR g m (k+i) x
|[],_,_,_,i,x,h=>by simp[flat]at h
|p::a,k,e,f,i,x,h=>by
 rw[flat]at h;have d:=f p (by simp);rcases Nat.lt_or_ge i p.n with hi|hi
 .rw[List.getElem?_append_left (by simpa[d]using hi),List.getElem?_map,Option.map_eq_some_iff]at h;obtain⟨y,j,rfl⟩:=h;exact e.1.2 i y j
 .rw[List.getElem?_append_right (by simpa[d]using hi),List.length_map,d]at h;have:=Ey a (k+p.n) e.2 (fun q r=>f q (by simp[r])) _ _ h;rw[show k+i=k+p.n+(i-p.n)by omega];exact this
theorem I5{g:Nat}{a:List Part}(e:∀p∈a,wK p)(h:total a<301->Qd g (total a) 0 a):Ok g (row a):=by
 refine⟨JX e,fun i x d=>?_⟩;have f:=Dx e;by_cases j:total a<301
 .have k:=f.1 j;rw[k.1]at d⊢;have:=Ey a 0 (h j) k.2 i x d;rwa[Nat.zero_add]at this
 .rw[f.2 (by omega)]at d;simp at d
theorem Qe{g:Nat}:∀(a:List Part)(k m:Nat),(∀p∈a,Ok g p)->k+total a<=m->Qd g m k a
|[],_,_,_,_=>trivial
|p::a,k,m,h,d=>by have e:total (p::a)=p.n+total a:=rfl;rw[e]at d;exact⟨(h p (by simp)).at_ (by omega),Qe a (k+p.n) m (fun q f=>h q (by simp[f])) (by omega)⟩
theorem zi{g:Nat}{a:List Part}(h:∀p∈a,Ok g p):Ok g (row a):=I5 (fun p d=>(h p d).1) (fun _=>Qe a 0 _ h (by omega))
theorem at_one{g m k:Nat}{x:aD}(h:KR g m k (moved k x)):At g m k (one [x]):=by
 refine⟨mO (by simp),fun i y a=>?_⟩;match i,a with
 |0,a=>simp[one]at a;subst a;exact h
theorem Ez{g m k:Nat}{far:Int}{lz:Bool}(a:1<=far)(d:k+far<=m)(e:k+1<=m):At g m k (split far lz):=by
 cases lz;focus
  show At g m k (one [⟨4,1,far,false,[]⟩])
 rotate_left;focus
  show At g m k (one [⟨4,far,1,false,[]⟩])
 rotate_left;all_goals
  refine at_one ⟨fun _=>?_,fun h=>absurd h (by simp[moved]),fun h=>absurd h (by simp[moved]),fun h=>absurd h (by simp[moved]),by simp[moved],by simp[moved]⟩;simp[moved];omega
theorem Qf{g m k:Nat}{far:Int}(a:0<=k+far)(d:k+far<=m):At g m k (jump far):=by refine at_one ⟨fun h=>absurd h (by simp[moved]),fun _=>?_,fun h=>absurd h (by simp[moved]),fun h=>absurd h (by simp[moved]),by simp[moved],by simp[moved]⟩;simp[moved];omega
theorem AJ{g:Nat}:∀(d:List Part),(∀p∈d,Ok g p)->Ok g (either d)
|[],_=>⟨.inl ⟨by decide,rfl⟩,by intro i x h;simp[either]at h⟩
|[p],h=>h p (by simp)
|p::q::d,h=>by
 have f:=AJ (q::d) (fun x e=>h x (by simp at e⊢;right;exact e));have j:=h p (by simp);rw[either];generalize either (q::d)=a at f;refine I5 ?_ ?_
 .intro x e;simp at e;rcases e with rfl|rfl|rfl|rfl
  .exact sF _ _
  .exact j.1
  .exact AB _
  .exact f.1
 .intro _;have k:total [split (p.n+2) false,p,jump (a.n+1),a]=1+(p.n+(1+(a.n+0))):=rfl;rw[k];exact⟨Ez (by omega) (by omega) (by omega),j.at_ (by show 0+1+p.n<=_;omega),Qf (by show(0:Int)<=((0+1+p.n:Nat):Int)+(a.n+1);omega) (by show((0+1+p.n:Nat):Int)+(a.n+1)<=_;omega),f.at_ (by show 0+1+p.n+1+a.n<=_;omega),trivial⟩
theorem I6{g:Nat}:Ok g ⟨[],0⟩:=⟨.inl ⟨by decide,rfl⟩,by intro i x h;simp at h⟩
theorem Dh{g:Nat}{p:Part}(h:Ok g p)(n:Nat):Ok g (many p n):=by
 unfold many;split
 .exact I6
 .exact zi (fun q a=>by rw[List.eq_of_mem_replicate a];exact h)
theorem vQ{g:Nat}{p:Part}(h:Ok g p)(lz:Bool):∀(n:Nat)(a:Part),Ok g a->Ok g (nD p lz n a)
|0,_,d=>d
|n+1,a,d=>by
 rw[nD];refine vQ h lz n _ (I5 ?_ ?_)
 .intro x e;simp at e;rcases e with rfl|rfl|rfl
  .exact sF _ _
  .exact h.1
  .exact d.1
 .intro _;have f:total [split (1+p.n+a.n) lz,p,a]=1+(p.n+(a.n+0)):=rfl;rw[f];exact⟨Ez (by omega) (by omega) (by omega),h.at_ (by show 0+1+p.n<=_;omega),d.at_ (by show 0+1+p.n+a.n<=_;omega),trivial⟩
theorem zk{g:Nat}{p:Part}(h:Ok g p)(lz:Bool):Ok g (loop p lz):=by
 refine I5 ?_ ?_
 .intro x a;simp at a;rcases a with rfl|rfl|rfl
  .exact sF _ _
  .exact h.1
  .exact AB _
 .intro _;have d:total [split (p.n+2) lz,p,jump (-(p.n:Int)-1)]=1+(p.n+(1+0)):=rfl;rw[d];exact⟨Ez (by omega) (by omega) (by omega),h.at_ (by show 0+1+p.n<=_;omega),Qf (by show(0:Int)<=((0+1+p.n:Nat):Int)+(-(p.n:Int)-1);omega) (by show((0+1+p.n:Nat):Int)+(-(p.n:Int)-1)<=_;omega),trivial⟩
end PG
namespace SH
structure dC where
 kind:Int
 deep:Int
 num:Int
 text:List Int
 items:List (List Int)
 pat:List Int
 forms:List FM.Form
 all:Bool
 fold:Bool
def letter(c:Int):Bool:=decide (c=95)||(decide (97<=c)&&decide (c<=122))||(decide (65<=c)&&decide (c<=90))
def fA:List Int->Bool
|[]=>false
|c::r=>letter c&&r.all (fun c=>letter c||FM.Cw c)&&decide (r.length<=31)
def dn:List Int->Bool
|[]=>true
|[_]=>true
|c::d::r=>if c=92 then decide (d≠47)&&dn r else dn (d::r)
def lU(p:List Int):Bool:=dn p&&decide ((PG.compile p).2.1=0)
def Bd(s:List Int):Bool:=s.all RX.aQ
def dS(x:dC):Bool:=x.pat.isEmpty&&x.forms.isEmpty&&!x.all&&!x.fold
def okK(x:dC):Bool:=if x.kind=0 then !x.text.isEmpty&&Bd x.text&&decide (x.num=0)&&x.items.isEmpty&&dS x
 else if x.kind=1 then x.text.isEmpty&&x.items.isEmpty&&dS x
 else if x.kind=2 then x.text.isEmpty&&x.items.isEmpty&&dS x&&decide (x.deep<12)
 else if x.kind=3 then x.text.isEmpty&&!x.items.isEmpty&&decide (x.items.length<=20)&&x.items.all Bd&&dS x
 else if x.kind=4 then x.text.isEmpty&&x.items.isEmpty&&lU x.pat&&FM.may x.forms
 else if x.kind=5 then fA x.text&&decide (x.num=0)&&x.items.isEmpty&&dS x
 else if x.kind=6 then fA x.text&&decide (x.num=0)&&x.items.isEmpty&&dS x&&decide (x.deep<12)
 else if x.kind=7 then fA x.text&&decide (x.num=0)&&x.items.isEmpty&&lU x.pat&&FM.may x.forms
 else false
def ok1(x:dC):Bool:=decide (0<=x.num)&&decide (x.num<=999)&&decide (0<=x.deep)&&decide (x.deep<=12)&&okK x
def holds(x:dC):Bool:=decide (x.kind=2)||decide (x.kind=6)
def nd(x:dC):Nat:=x.deep.toNat+(if holds x then 1 else 0)
def nf(x:dC)(f:Nat->Bool):Nat->Bool:=fun k=>if holds x=true/\k=x.deep.toNat+1 then false else if k=x.deep.toNat then decide (x.kind=0)else f k
def ic:Nat->(Nat->Bool)->List dC->Bool
|_,_,[]=>true
|d,f,x::r=>ok1 x&&decide (x.deep<=d)&&!(decide (x.kind=0)&&f x.deep.toNat)&&ic (nd x) (nf x f) r
def may(l:List dC):Bool:=ic 0 (fun _=>false) l
def dec(n:Int):List Int:=if n<10 then[48+n]else if n<100 then[48+n/10,48+n%10]else[48+n/100,48+n/10%10,48+n%10]
def JE:List Int:=[44,124,92]
def Gp:List Int:=[36,125,92]
def dD:List (List Int)->List Int
|[]=>[]
|[a]=>FM.guard JE a
|a::b::r=>FM.guard JE a++44::dD (b::r)
def ahead:List Int->List Int
|[]=>[]
|[c]=>if c=47 then[92,47]else[c]
|c::d::r=>if c=47 then 92::47::ahead (d::r)else if c=92 then 92::d::ahead r else c::ahead (d::r)
def flags(x:dC):List Int:=(if x.all then[103]else[])++(if x.fold then[105]else[])
def trans(x:dC):List Int:=47::(ahead x.pat++47::(FM.print x.forms++47::flags x))
def head(x:dC):List Int:=36::123::((if x.kind=5\/x.kind=6\/x.kind=7 then x.text else dec x.num)++(if x.kind=2\/x.kind=6 then[58]else if x.kind=3 then 124::(dD x.items++[124])else if x.kind=4\/x.kind=7 then trans x else[]))
def body(x:dC):List Int:=if x.kind=0 then FM.guard Gp x.text else head x++(if holds x then[]else[125])
def Xc:Nat->List dC->List Int
|d,[]=>List.replicate d 125
|d,x::r=>List.replicate (d-x.deep.toNat) 125++(body x++Xc (nd x) r)
def print(l:List dC):List Int:=Xc 0 l
def res(l:List dC):List Int×Int:=if may l then(if 600<(print l).length then([],3)else(print l,0))else([],1)
theorem yn:∀(l:List dC)(d:Nat)(f g:Nat->Bool),(∀k,k<=d->f k=g k)->ic d f l=ic d g l
|[],_,_,_,_=>rfl
|x::r,d,f,g,h=>by
 rw[ic,ic];by_cases a:(ok1 x&&decide (x.deep<=d))=true
 .have j:x.deep.toNat<=d:=by simp only[Bool.and_eq_true,decide_eq_true_eq]at a;omega
  rw[h _ j,yn r (nd x) (nf x f) (nf x g) (fun k i=>by
   unfold nf;unfold nd at i;split
   .rfl
   .rename_i m;split
    .rfl
    .refine h k ?_;split at i
     .rename_i p;have:k≠x.deep.toNat+1:=fun e=>m ⟨p,e⟩;omega
     .omega)]
 .rw[Bool.not_eq_true]at a;rw[a];rfl
end SH
namespace TP
def next(ts:List Int)(i n:Nat):Nat×Nat:=match ts[i]? with|some x=>((x%16777216).toNat%n,i+1)|none=>(0,i)
theorem sj(ts:List Int)(i:Nat){n:Nat}(a:1<=n):(next ts i n).1<n:=by
 unfold next;split
 .exact Nat.mod_lt _ a
 .exact a
theorem mo{ts:List Int}{i:Nat}(n:Nat)(h:i<=ts.length):(next ts i n).2<=ts.length:=by
 unfold next;split
 .rename_i a;have:=(List.getElem?_eq_some_iff.1 a).1;exact this
 .exact h
end TP
namespace FM
theorem oL{p:Int->Bool}{l:List Int}(h:l.all p=true)(k:Nat):(l.drop k).all p=true:=by rw[List.all_eq_true]at*;exact fun x a=>h x (List.mem_of_mem_drop a)
theorem Ed{p:Int->Bool}{l:List Int}(h:l.all p=true):l.tail.all p=true:=by rw[<-List.drop_one];exact oL h 1
theorem UD(l:List Int)(h:iZ l<=2):0<=val (l.take (iZ l))/\val (l.take (iZ l))<=99:=by
 have f:∀c:Int,Cw c=true->48<=c/\c<=57:=by intro c i;simpa[Cw]using i
 match l with
 |[]=>simp[iZ,val]
 |a::r=>
  by_cases d:Cw a=true
  .have j:=f a d;rw[iZ,if_pos d]at h⊢;match r with
   |[]=>simp[iZ,val];omega
   |b::r=>
    by_cases e:Cw b=true
    .have k:=f b e;rw[iZ,if_pos e]at h⊢;rw[show iZ r=0 by omega];simp[val];omega
    .rw[iZ,if_neg e];simp[val];omega
  .rw[iZ,if_neg d];simp[val]
theorem zY{l:List Int}{n:Int}{k:Nat}(h:number l=some (n,k)):0<=n/\n<=99/\1<=k/\k<=2/\k<=l.length:=by
 unfold number at h;split at h
 .cases h
 .rename_i e;injection h with h;injection h with a d;subst a d;have:=UD l (by omega);have:=CY l;omega
theorem su(e:Int):∀(n:Nat)(l:List Int)(t:List Int)(k:Nat),l.length<=n->text e l=some (t,k)->l.all RX.aQ=true->t.all RX.aQ=true/\1<=k/\k<=l.length
|_,[],t,k,_,h,_=>by cases h
|_,[c],t,k,_,h,_=>by
 rw[text]at h;split at h
 .injection h with h;injection h with f a;subst f a;exact⟨rfl,Nat.le_refl _,by simp⟩
 .cases h
|0,_::_::_,_,_,i,_,_=>by simp at i
|n+1,c::d::r,t,k,i,h,s=>by
 simp only[List.all_cons,Bool.and_eq_true]at s;obtain⟨w,u,v⟩:=s;rw[text]at h;split at h
 .rw[Option.map_eq_some_iff]at h;obtain⟨⟨j,m⟩,f,a⟩:=h;injection a with a p;subst a p;have:=su e n r j m (by simp at i;omega) f v;refine⟨?_,by omega,by simp;omega⟩;simp only[List.all_cons,u,this.1];rfl
 split at h
 .injection h with h;injection h with f a;subst f a;exact⟨rfl,Nat.le_refl _,by simp⟩
 .rw[Option.map_eq_some_iff]at h;obtain⟨⟨j,m⟩,f,a⟩:=h;injection a with a p;subst a p;have:=su e n (d::r) j m (by simp at i⊢;omega) f (by simp only[List.all_cons,u,v];rfl);refine⟨?_,by omega,by have:=this.2.2;simp at this⊢;omega⟩;simp only[List.all_cons,w,this.1];rfl
theorem GM:∀(a:List (List Int))(i:Int)(l:List Int)(c:Int)(k:Nat),rW a i l=some (c,k)->i<=c/\c<i+a.length/\1<=k/\k<=l.length
|[],_,_,_,_,h=>by cases h
|w::a,i,l,c,k,h=>by
 rw[rW]at h;split at h
 .rename_i d;injection h with h;injection h with e f;subst e f;have:=congrArg List.length d;rw[List.length_take,List.length_append]at this;simp at this⊢;omega
 .have:=GM a (i+1) l c k h;simp;omega
theorem UE{l:List Int}{c:Int}{k:Nat}(h:Kn l=some (c,k)):1<=c/\c<=5/\1<=k/\k<=l.length:=by have:=GM _ _ _ _ _ h;simp[names]at this;omega
theorem head_tail{l:List Int}{c:Int}(h:l.head?=some c):l.tail.length+1=l.length:=by
 cases l with
 |nil=>cases h
 |cons _ r=>rfl
theorem p9{f:Form}(j:f.text.all RX.aQ=true)(k:f.els.all RX.aQ=true)(m:0<=f.group)(p:f.group<=99)(r:0<=f.rX)(s:f.rX<=5)(h:(f.kind=0/\f.text≠[]/\f.els=[]/\f.group=0/\f.rX=0)\/(f.kind=1/\f.text=[]/\f.els=[])\/(f.kind=2/\f.els=[]/\f.rX=0)\/(f.kind=3/\f.text=[]/\f.rX=0)\/(f.kind=4/\f.rX=0)):dJ f=true:=by
 unfold dJ;rw[Bool.and_eq_true];refine⟨by simp only[j,k,Bool.and_eq_true,decide_eq_true_eq];exact⟨⟨⟨⟨⟨trivial,trivial⟩,m⟩,p⟩,r⟩,s⟩,?_⟩;rcases h with⟨a,e,i,t,d⟩|⟨a,e,i⟩|⟨a,i,d⟩|⟨a,e,d⟩|⟨a,d⟩
 .rw[if_pos a];simp[e,i,t,d]
 .rw[if_neg (by omega),if_pos a];simp[e,i]
 .rw[if_neg (by omega),if_neg (by omega),if_pos a];simp[i,d]
 .rw[if_neg (by omega),if_neg (by omega),if_neg (by omega),if_pos a];simp[e,d]
 .rw[if_neg (by omega),if_neg (by omega),if_neg (by omega),if_neg (by omega),if_pos a];simp[d]
theorem Ee{g:Int}{l:List Int}{f:Form}{k:Nat}(h:inner g l=some (f,k))(m:0<=g)(r:g<=99)(u:l.all RX.aQ=true):dJ f=true/\f.kind≠0/\1<=k/\k<=l.length:=by
 have s:=Ed u;unfold inner at h;split at h
 .rename_i j;have:=head_tail j;rw[Option.map_eq_some_iff]at h;obtain⟨⟨c,d⟩,e,a⟩:=h;injection a with a i;subst a i;have:=UE e;exact⟨p9 rfl rfl m r (by show 0<=c;omega) (by show c<=5;omega) (.inr (.inl ⟨rfl,rfl,rfl⟩)),by show(1:Int)≠0;decide,by show 1<=d+1;omega,by show d+1<=_;omega⟩
 split at h
 .rename_i j;have:=head_tail j;rw[Option.map_eq_some_iff]at h;obtain⟨⟨c,d⟩,e,a⟩:=h;injection a with a i;subst a i;have:=su _ _ _ _ _ (Nat.le_refl _) e s;exact⟨p9 this.1 rfl m r (by show(0:Int)<=0;decide) (by show(0:Int)<=5;decide) (.inr (.inr (.inl ⟨rfl,rfl,rfl⟩))),by show(2:Int)≠0;decide,by show 1<=d+1;omega,by show d+1<=_;omega⟩
 split at h
 .rename_i j;have:=head_tail j;split at h
  .cases h
  .rename_i p z;obtain⟨t,k1⟩:=p;rw[Option.map_eq_some_iff]at h;obtain⟨⟨c,d⟩,e,a⟩:=h;injection a with a i;subst a i;have A:=su _ _ _ _ _ (Nat.le_refl _) z s;have v:=su _ _ _ _ _ (Nat.le_refl _) e (oL s _);have w:=v.2.2;rw[List.length_drop]at w;exact⟨p9 A.1 v.1 m r (by show(0:Int)<=0;decide) (by show(0:Int)<=5;decide) (.inr (.inr (.inr (.inr ⟨rfl,rfl⟩)))),by show(4:Int)≠0;decide,by show 1<=k1+d+1;omega,by show k1+d+1<=_;simp only at w;omega⟩
 split at h
 .rename_i j;have:=head_tail j;rw[Option.map_eq_some_iff]at h;obtain⟨⟨c,d⟩,e,a⟩:=h;injection a with a i;subst a i;have:=su _ _ _ _ _ (Nat.le_refl _) e s;exact⟨p9 rfl this.1 m r (by show(0:Int)<=0;decide) (by show(0:Int)<=5;decide) (.inr (.inr (.inr (.inl ⟨rfl,rfl,rfl⟩)))),by show(3:Int)≠0;decide,by show 1<=d+1;omega,by show d+1<=_;omega⟩
 .rw[Option.map_eq_some_iff]at h;obtain⟨⟨c,d⟩,e,a⟩:=h;injection a with a i;subst a i;have:=su _ _ _ _ _ (Nat.le_refl _) e u;exact⟨p9 rfl this.1 m r (by show(0:Int)<=0;decide) (by show(0:Int)<=5;decide) (.inr (.inr (.inr (.inl ⟨rfl,rfl,rfl⟩)))),by show(3:Int)≠0;decide,this.2.1,this.2.2⟩
theorem C8{l:List Int}{f:Form}{k:Nat}(h:part l=some (f,k))(t:l.all RX.aQ=true):dJ f=true/\f.kind≠0/\1<=k/\k<=l.length:=by
 unfold part at h;split at h
 .rename_i n e i;injection h with h;injection h with j a;subst j a;have:=zY i;exact⟨p9 rfl rfl this.1 this.2.1 (by show(0:Int)<=0;decide) (by show(0:Int)<=5;decide) (.inr (.inl ⟨rfl,rfl,rfl⟩)),by show(1:Int)≠0;decide,by omega,by omega⟩
 .split at h
  .rename_i u;have:=head_tail u;split at h
   .cases h
   .rename_i n e i;have d:=zY i;split at h
    .rename_i m;injection h with h;injection h with j a;subst j a;have p:=head_tail m;rw[List.length_drop]at p;exact⟨p9 rfl rfl d.1 d.2.1 (by show(0:Int)<=0;decide) (by show(0:Int)<=5;decide) (.inr (.inl ⟨rfl,rfl,rfl⟩)),by show(1:Int)≠0;decide,by omega,by omega⟩
    .split at h
     .rename_i m;rw[Option.map_eq_some_iff]at h;obtain⟨⟨w,k2⟩,a,r⟩:=h;injection r with r v;subst r v;have p:=head_tail m;rw[List.length_drop]at p;have s:=Ee a d.1 d.2.1 (Ed (oL (Ed t) _));exact⟨s.1,s.2.1,by show 1<=k2+e+2;omega,by show k2+e+2<=_;have:=s.2.2.2;omega⟩
     .cases h
  .cases h
theorem Kw{fs:List Form}{tx:List Int}(d:ic false fs=true)(e:lQ false fs=false)(f:tx.all RX.aQ=true):ic false (nX fs tx)=true:=by
 unfold nX;split
 .exact d
 .rename_i a;rw[mU,d,e];have:dJ ⟨0,0,0,tx,[]⟩=true:=p9 f rfl (by show(0:Int)<=0;decide) (by show(0:Int)<=99;decide) (by show(0:Int)<=0;decide) (by show(0:Int)<=5;decide) (.inl ⟨rfl,a,rfl,rfl,rfl⟩);simp[ic,this]
theorem Db:∀(n:Nat)(l:List Int)(fs:List Form)(tx:List Int)(i:Nat)(r:List Form)(j:Nat),scan n l fs tx i=some (r,j)->l.all RX.aQ=true->tx.all RX.aQ=true->ic false fs=true->lQ false fs=false->may r=true/\i<=j/\l[j-i]?=some 47
|0,_,_,_,_,_,_,h,_,_,_,_=>by cases h
|_+1,[],_,_,_,_,_,h,_,_,_,_=>by cases h
|n+1,c::l,fs,tx,i,r,j,h,e,p,s,t=>by
 simp only[List.all_cons,Bool.and_eq_true]at e;obtain⟨u,e⟩:=e;have v:(tx++[c]).all RX.aQ=true:=by rw[List.all_append,p];simp[u]
 have a:scan n l fs (tx++[c]) (i+1)=some (r,j)->may r=true/\i<=j/\(c::l)[j-i]?=some 47:=by intro h;have:=Db n l fs _ _ r j h e v s t;refine⟨this.1,by omega,?_⟩;rw[show j-i=(j-(i+1))+1 by omega,List.getElem?_cons_succ];exact this.2.2
 rw[scan]at h;split at h
 .rename_i u;injection h with h;injection h with A B;subst A B u;exact⟨Kw s t p,Nat.le_refl _,by simp⟩
 split at h
 .split at h
  .rename_i f k C;have w:=C8 C e;have m:=Db n _ _ _ _ r j h (oL e _) rfl (by rw[mU,Kw s t p];simp[ic,w.1,w.2.1]) (by rw[rZ];simp[w.2.1]);refine⟨m.1,by omega,?_⟩;have z:=m.2.2;rw[List.getElem?_drop]at z;rw[show j-i=(k+(j-(i+1+k)))+1 by omega,List.getElem?_cons_succ];exact z
  .exact a h
 .split at h
  .rename_i d D;obtain⟨_,_,E,rfl⟩:=GL D;simp only[List.all_cons,Bool.and_eq_true]at e;have m:=Db n _ _ _ _ r j h e.2 (by rw[List.all_append,p];simp[e.1]) s t;refine⟨m.1,by omega,?_⟩;rw[show j-i=(j-(i+2))+1+1 by omega,List.getElem?_cons_succ,List.getElem?_cons_succ];exact m.2.2
  .exact a h
def pieces:List (List Int):=[[36,49],[36,123,49,125],[36,123,48,58,47,117,112,99,97,115,101,125],[36,123,49,58,47,112,97,115,99,97,108,99,97,115,101,125],[36,123,49,58,43,120,125],[36,123,49,58,45,121,125],[36,123,49,58,63,120,58,121,125],[36,123,49,58,122,125],[97],[45],[36],[92,47],[36,123,49,58,47,110,111,125],[36,49,50],[92,36,49],[36,123,50,58,47,99,97,109,101,108,99,97,115,101,125],[36,49,50,51]]
end FM
namespace TP
def one(ts:List Int)(i:Nat)(l:List (List Int)):List Int×Nat:=(l.getD (next ts i l.length).1 [],(next ts i l.length).2)
def l1:List (List Int):=[[97],[98],[99],[46],[95],[65],[32]]
def l2:List (List Int):=[[92,119],[92,100],[92,115],[91,97,98,99,93],[91,94,97,45,98,93],[91,92,119,45,93],[92,46],[92,87],[91,97,45,93]]
def l3:List (List Int):=[[40],[40,63,58]]
def l4:List (List Int):=[[94],[36],[],[]]
def l5:List (List Int):=[[97],[98],[40,99,41],[40,97,41]]
def lr:List (List Int):=[[],[],[42],[43],[63],[42,63],[123,49,44,50,125],[123,50,125],[123,48,44,125,63]]
section
variable(ts:List Int)(deep:Bool)(sub:Nat->List Int×Nat)
def inner(i:Nat):List Int×Nat:=let a:=one ts i l3;let p:=sub a.2;let m:=next ts p.2 3;if m.1=0 then(a.1++p.1++[124]++(sub m.2).1++[41],(sub m.2).2)else(a.1++p.1++[41],m.2)
def item(i:Nat):List Int×Nat:=let k:=next ts i 10;let rep(a:List Int×Nat):List Int×Nat:=(a.1++(one ts a.2 lr).1,(one ts a.2 lr).2);if k.1<3 then rep (one ts k.2 l1)
 else if k.1<5 then rep (one ts k.2 l2)
 else if k.1<7/\deep=true then rep (inner ts sub k.2)
 else if k.1<8 then one ts k.2 l4
 else rep (one ts k.2 l5)
def loop:Nat->Nat->List Int->List Int×Nat
|0,i,out=>(out,i)
|n+1,i,out=>loop n (item ts deep sub i).2 (out++(item ts deep sub i).1)
def made(i:Nat):List Int×Nat:=loop ts deep sub (1+(next ts i 3).1) (next ts i 3).2 []
end
def pat(ts:List Int):Nat->Nat->List Int×Nat
|0=>made ts false (fun i=>([],i))
|d+1=>made ts true (pat ts d)
theorem one_le{ts:List Int}{i:Nat}(l:List (List Int))(h:i<=ts.length):(one ts i l).2<=ts.length:=mo _ h
theorem WJ{l:List (List Int)}{n:Nat}(h:∀x∈l,x.length<=n)(k:Nat):(l.getD k []).length<=n:=by
 rcases Nat.lt_or_ge k l.length with a|a
 .rw[List.getD_eq_getElem?_getD,List.getElem?_eq_getElem a];exact h _ (List.getElem_mem a)
 .rw[List.getD_eq_getElem?_getD,List.getElem?_eq_none a];exact Nat.zero_le _
theorem fZ{ts:List Int}{i:Nat}{l:List (List Int)}{n:Nat}(h:∀x∈l,x.length<=n):(one ts i l).1.length<=n:=WJ h _
def ze(ts:List Int)(b:Nat)(sub:Nat->List Int×Nat):Prop:=∀i,i<=ts.length->(sub i).2<=ts.length/\(sub i).1.length<=b
section
variable{ts:List Int}{deep:Bool}{sub:Nat->List Int×Nat}{b:Nat}
theorem Ee(a:ze ts b sub){i:Nat}(h:i<=ts.length):(inner ts sub i).2<=ts.length/\(inner ts sub i).1.length<=2*b+5:=by
 unfold inner;simp only;have e:=one_le l3 h;have k:=fZ (ts:=ts) (i:=i) (l:=l3) (n:=3) (by decide);have f:=a _ e;have d:=mo 3 f.1;have j:=a _ d;split
 .exact⟨j.1,by simp only[List.length_append,List.length_cons,List.length_nil];omega⟩
 .exact⟨d,by simp only[List.length_append,List.length_cons,List.length_nil];omega⟩
theorem PY(f:ze ts b sub){i:Nat}(h:i<=ts.length):(item ts deep sub i).2<=ts.length/\(item ts deep sub i).1.length<=2*b+15:=by
 have e:∀a:List Int×Nat,a.2<=ts.length->a.1.length<=2*b+9->(one ts a.2 lr).2<=ts.length/\(a.1++(one ts a.2 lr).1).length<=2*b+15:=fun a j k=>
  ⟨one_le lr j,by have:=fZ (ts:=ts) (i:=a.2) (l:=lr) (n:=6) (by decide);rw[List.length_append];omega⟩;have d:=mo 10 h;unfold item;simp only;split
 .exact e _ (one_le l1 d) (by have:=fZ (ts:=ts) (i:=(next ts i 10).2) (l:=l1) (n:=6) (by decide);omega)
 split
 .exact e _ (one_le l2 d) (by have:=fZ (ts:=ts) (i:=(next ts i 10).2) (l:=l2) (n:=6) (by decide);omega)
 split
 .have:=Ee f d;exact e _ this.1 (by omega)
 split
 .exact⟨one_le l4 d,by have:=fZ (ts:=ts) (i:=(next ts i 10).2) (l:=l4) (n:=6) (by decide);omega⟩
 .exact e _ (one_le l5 d) (by have:=fZ (ts:=ts) (i:=(next ts i 10).2) (l:=l5) (n:=6) (by decide);omega)
theorem zk(d:ze ts b sub):∀(n i:Nat)(a:List Int),i<=ts.length->(loop ts deep sub n i a).2<=ts.length/\(loop ts deep sub n i a).1.length<=a.length+n*(2*b+15)
|0,_,_,h=>⟨h,by simp[loop]⟩
|n+1,i,a,h=>by have f:=PY (deep:=deep) d h;have e:=zk d n (item ts deep sub i).2 (a++(item ts deep sub i).1) f.1;rw[List.length_append]at e;unfold loop;exact⟨e.1,by rw[Nat.succ_mul];omega⟩
theorem QG(d:ze ts b sub):ze ts (3*(2*b+15)) (made ts deep sub):=by intro i h;have e:=sj ts i (n:=3) (by decide);have a:=zk (deep:=deep) d (1+(next ts i 3).1) (next ts i 3).2 [] (mo 3 h);unfold made;refine⟨a.1,Nat.le_trans a.2 ?_⟩;rw[List.length_nil,Nat.zero_add];exact Nat.mul_le_mul_right _ (by omega)
end
theorem IY(ts:List Int):ze ts 45 (pat ts 0):=QG (b:=0) (fun _ h=>⟨h,Nat.le_refl _⟩)
theorem Yy(ts:List Int):ze ts 315 (pat ts 1):=QG (IY ts)
def D9(ts:List Int):Nat->Nat->List Int->List Int×Nat
|0,i,out=>(out,i)
|n+1,i,out=>D9 ts n (one ts i FM.pieces).2 (out++(one ts i FM.pieces).1)
def fmt(ts:List Int)(i:Nat):List Int×Nat:=D9 ts (next ts i 4).1 (next ts i 4).2 []
theorem XR{ts:List Int}{i:Nat}:(one ts i FM.pieces).1∈FM.pieces:=by unfold one;have h:=sj ts i (n:=FM.pieces.length) (by decide);show FM.pieces.getD _ []∈_;rw[List.getD_eq_getElem?_getD,List.getElem?_eq_getElem h];exact List.getElem_mem h
theorem PT{ts:List Int}:∀(n i:Nat)(a:List Int),i<=ts.length->(∃e:List (List Int),(∀p∈e,p∈FM.pieces)/\(D9 ts n i a).1=a++e.flatten)/\(D9 ts n i a).2<=ts.length/\(D9 ts n i a).1.length<=a.length+n*17
|0,i,a,h=>⟨⟨[],(fun p d=>absurd d (by simp)),by simp[D9]⟩,h,by simp[D9]⟩
|n+1,i,a,h=>by
 have f:=one_le FM.pieces h;have s:=fZ (ts:=ts) (i:=i) (l:=FM.pieces) (n:=17) (by decide);obtain⟨⟨e,j,k⟩,m,r⟩:=PT n (one ts i FM.pieces).2 (a++(one ts i FM.pieces).1) f;unfold D9;refine⟨⟨(one ts i FM.pieces).1::e,?_,?_⟩,m,?_⟩
 .intro p d;rcases List.mem_cons.1 d with rfl|d
  .exact XR
  .exact j p d
 .rw[k,List.append_assoc,List.flatten_cons]
 .rw[List.length_append]at r;rw[Nat.succ_mul];omega
theorem aag{ts:List Int}{i:Nat}(h:i<=ts.length):(∃a:List (List Int),(∀p∈a,p∈FM.pieces)/\(fmt ts i).1=a.flatten)/\(fmt ts i).2<=ts.length/\(fmt ts i).1.length<=51:=by have k:=sj ts i (n:=4) (by decide);obtain⟨⟨a,d,e⟩,f,j⟩:=PT (ts:=ts) (next ts i 4).1 (next ts i 4).2 [] (mo 4 h);refine⟨⟨a,d,by unfold fmt;rw[e];rfl⟩,f,?_⟩;have m:(next ts i 4).1*17<=3*17:=Nat.mul_le_mul_right _ (by omega);unfold fmt;simp only[List.length_nil]at j;omega
end TP
namespace FM
theorem yT(e:Int):∀(n:Nat)(l:List Int)(t:List Int)(k:Nat),l.length<=n->text e l=some (t,k)->t.length<=k
|_,[],t,k,_,h=>by cases h
|_,[c],t,k,_,h=>by
 rw[text]at h;split at h
 .injection h with h;injection h with f a;subst f a;simp
 .cases h
|0,_::_::_,_,_,i,_=>by simp at i
|n+1,c::d::r,t,k,i,h=>by
 rw[text]at h;split at h
 .rw[Option.map_eq_some_iff]at h;obtain⟨⟨j,m⟩,f,a⟩:=h;injection a with a p;subst a p;have:=yT e n r j m (by simp at i;omega) f;simp;omega
 split at h
 .injection h with h;injection h with f a;subst f a;simp
 .rw[Option.map_eq_some_iff]at h;obtain⟨⟨j,m⟩,f,a⟩:=h;injection a with a p;subst a p;have:=yT e n (d::r) j m (by simp at i⊢;omega) f;simp;omega
theorem UF{g:Int}{l:List Int}{f:Form}{k:Nat}(h:inner g l=some (f,k)):f.text.length+f.els.length<=k:=by
 unfold inner at h;split at h
 .rw[Option.map_eq_some_iff]at h;obtain⟨⟨c,i⟩,e,a⟩:=h;injection a with a d;subst a d;simp
 split at h;rotate_left;focus
  split at h
  .split at h
   .cases h
   .rename_i p j;obtain⟨t,k1⟩:=p;rw[Option.map_eq_some_iff]at h;obtain⟨⟨c,i⟩,e,a⟩:=h;injection a with a d;subst a d;have m:=yT _ _ _ _ _ (Nat.le_refl _) j;have r:=yT _ _ _ _ _ (Nat.le_refl _) e;simp;omega
  split at h;rotate_left;rotate_left
 all_goals
  rw[Option.map_eq_some_iff]at h;obtain⟨⟨c,i⟩,e,a⟩:=h;injection a with a d;subst a d;have:=yT _ _ _ _ _ (Nat.le_refl _) e;simp;omega
theorem XQ{l:List Int}{f:Form}{k:Nat}(h:part l=some (f,k)):f.text.length+f.els.length<=k:=by
 unfold part at h;split at h
 .injection h with h;injection h with d a;subst d a;simp
 .split at h
  .split at h
   .cases h
   .split at h
    .injection h with h;injection h with d a;subst d a;simp
    .split at h
     .rw[Option.map_eq_some_iff]at h;obtain⟨⟨j,k2⟩,a,e⟩:=h;injection e with e i;subst e i;have:=UF a;simp only;omega
     .cases h
  .cases h
def total(l:List Form):Nat:=(l.map fun f=>2*f.text.length+2*f.els.length+(if f.kind=0 then 0 else 17)).foldr (·+·) 0
theorem yU(a b:List Form):total (a++b)=total a+total b:=by
 unfold total;rw[List.map_append,List.foldr_append];induction a.map (fun f=>2*f.text.length+2*f.els.length+(if f.kind=0 then 0 else 17))with
 |nil=>simp
 |cons x r d=>simp only[List.foldr_cons,d];omega
theorem Ef(fs:List Form)(tx:List Int):total (nX fs tx)<=total fs+2*tx.length:=by
 unfold nX;split
 .omega
 .rw[yU];simp[total]
theorem sw:∀(n:Nat)(l:List Int)(fs:List Form)(tx:List Int)(i:Nat)(r:List Form)(j:Nat),scan n l fs tx i=some (r,j)->l.all RX.aQ=true->total r<=total fs+2*tx.length+10*l.length
|0,_,_,_,_,_,_,h,_=>by cases h
|_+1,[],_,_,_,_,_,h,_=>by cases h
|n+1,c::l,fs,tx,i,r,j,h,e=>by
 simp only[List.all_cons,Bool.and_eq_true]at e;obtain⟨u,e⟩:=e;have a:scan n l fs (tx++[c]) (i+1)=some (r,j)->total r<=total fs+2*tx.length+10*(c::l).length:=by intro h;have:=sw n l fs _ _ r j h e;rw[List.length_append]at this;simp at this⊢;omega
 rw[scan]at h;split at h
 .injection h with h;injection h with s v;have:=Ef fs tx;rw[s]at this;omega
 split at h
 .split at h
  .rename_i f k m;have w:=XQ m;have z:=C8 m e;have p:=sw n _ _ _ _ r j h (oL e _);have A:=Ef fs tx;rw[yU,List.length_drop]at p;have B:total [f]<=2*f.text.length+2*f.els.length+17:=by simp[total];split<;>omega
   simp only[List.length_nil,List.length_cons]at p⊢;omega
  .exact a h
 .split at h
  .rename_i d t;obtain⟨_,_,C,rfl⟩:=GL t;simp only[List.all_cons,Bool.and_eq_true]at e;have:=sw n _ fs _ _ r j h e.2;rw[List.length_append]at this;simp at this⊢;omega
  .exact a h
theorem oO:∀(n:Nat)(l:List Int)(fs:List Form)(tx:List Int)(i:Nat)(r:List Form)(j:Nat),scan n l fs tx i=some (r,j)->r.length<=fs.length+2*l.length+1
|0,_,_,_,_,_,_,h=>by cases h
|_+1,[],_,_,_,_,_,h=>by cases h
|n+1,c::l,fs,tx,i,r,j,h=>by
 have d:∀tx,(nX fs tx).length<=fs.length+1:=by intro tx;unfold nX;split<;>simp
 rw[scan]at h;split at h
 .injection h with h;injection h with e f;have:=d tx;rw[e]at this;simp;omega
 split at h
 .split at h
  .have a:=oO n _ _ _ _ r j h;have:=d tx;rw[List.length_append,List.length_drop]at a;simp at a⊢;omega
  .have a:=oO n _ _ _ _ r j h;simp;omega
 .split at h
  .have a:=oO n _ _ _ _ r j h;rw[List.length_tail]at a;simp;omega
  .have a:=oO n _ _ _ _ r j h;simp;omega
end FM
end Go.Proofs.YtcogknbbbjnaiaaGreatDoor
