/- For ShowTells: what the texts XFdB XFdC XFdD XFdE XFdF of wip/tpl say. -/
import Derived.Test.YtcogknbbbjnaiaaGreatDoorP
import Derived.Laws.IdiomStrings
import Derived.Laws.Cover4
import Derived.Outline
set_option maxHeartbeats 1000000
namespace Go.Proofs.YtcogknbbbjnaiaaGreatDoor
open Go.RowKit
def Uh(u v:Value)(w:World)(e:Ending)(w':World):Prop:=e=.returned (.tuple #[u,v])/\Ext w w'
theorem Ui(l:List Int)(c:Int):FM.val (l++[c])=10*FM.val l+(c-48):=by simp[FM.val,List.foldl_append]
theorem yN(a b:ByteArray):signs (a++b)=signs a++signs b:=by simp[signs,ByteArray.data_append]
theorem Kk:∀(l:List Int)(j:Nat)(h:j<FM.iZ l),FM.Cw (l[j]'(mJ h (FM.CY l)))=true
|[],j,h=>by simp[FM.iZ]at h
|c::r,j,h=>by
 unfold FM.iZ at h;split at h
 .rename_i a;cases j with
  |zero=>exact a
  |succ j=>exact Kk r j (by omega)
 .omega
theorem Kl(c:Int)(w:World):Calls Tryz.prog 82 #[.int .i32 c] w (lW (.bool (!RX.aQ c)) w):=by go_enter Tryz.func82,Tryz.ntmps82;go_wp2_with fail;refine(Uj _ _).mono ?_;rintro e a⟨rfl,n,rfl⟩;go_wp2_with fail;go_ret;exact⟨rfl,_,rfl⟩
def adt(s:List Int)(w:World)(e:Ending)(w':World):Prop:=∃n:Int,∃m:Nat,e=.returned (.int .i64 n)/\decide (0<=n)=!s.all RX.aQ/\w'=w.drewN m
theorem M0(s:List Int)(v:Value)(w:World)(m:ib w v s):Calls Tryz.prog 100 #[v,.func (.func 82) #[] #[]] w (adt s w):=by
 obtain⟨A,c,rfl,z,B,-⟩:=id m;have C:=jd m;clear m;go_enter Tryz.func100,Tryz.ntmps100;go_wp2_with fail;go_loopw[8](fun i wr=>∃k n:Nat,k<=s.length/\i=.int .i64 k/\wr=w.drewN n/\∀x∈s.take k,RX.aQ x=true)(fun i _=>s.length-(intOf i).toNat);case atStart=>exact⟨0,0,aL _,rfl,rfl,by simp⟩
 case round=>
  obtain⟨k,n,G,rfl,rfl,a⟩:=hrel;have t:=jd a;clear a;by_cases d:k<s.length
  .obtain⟨b,o,rfl,D⟩:=C.o.at_ d;obtain⟨x,j⟩:∃x,s[k]=x:=⟨_,rfl⟩;rw[j]at D;have u:=jd j;clear j;rcases p:(!RX.aQ x)with _|_
   .go_wp2_with(go_at_call 82;refine(Kl _ _).mono ?_;rintro e E⟨rfl,F,rfl⟩);go_roundw;case rel=>
     refine⟨k+1,_,by omega,by go_num,rfl,fun y f=>?_⟩;rw[kE d]at f;rcases iN.1 f with f|f
     .exact t.o y f
     .simp at f;subst f;rw[u.o];simpa using p
    case measure=>simp[intOf];omega
   .have r:=jd (show decide ((0:Int)<=(k:Int))=!s.all RX.aQ by rw[bJ (by omega)];symm;rw[Bool.not_eq_true'];rw[Bool.eq_false_iff];intro h;have:=yO.1 h s[k] (bK d);rw[u.o]at this;rw[this]at p;cases p);go_wp2_with(go_at_call 82;refine(Kl _ _).mono ?_;rintro e E⟨rfl,F,rfl⟩);go_ret;exact⟨_,_,rfl,r.o,rfl⟩
  .have r:=jd (show decide ((0:Int)<=(-1:Int))=!s.all RX.aQ by rw[bR (by decide)];symm;rw[Bool.not_eq_false',yO];intro x j;exact t.o x (by rw[pU (by omega)];exact j));go_wp2_with fail;go_ret;exact⟨_,_,rfl,r.o,rfl⟩
theorem F8(s:List Int)(v:Value)(w:World)(a:ib w v s):Calls Tryz.prog 81 #[v,.func (.func 82) #[] #[]] w (lW (.bool (!s.all RX.aQ)) w):=by have H:=jd (M0 s v w a);obtain⟨A,c,rfl,f,h,-⟩:=a;go_enter Tryz.func81,Tryz.ntmps81;go_wp2_with fail;refine H.o.mono ?_;rintro e j⟨n,m,rfl,d,rfl⟩;have i:=jd d;clear d;go_wp2_with fail;go_ret;exact⟨by rw[<-i.o];rfl,_,rfl⟩
theorem yP(s:List Int)(v:Value)(w:World)(a:ib w v s):Calls Tryz.prog 61 #[v] w (lW (.bool (s.all RX.aQ)) w):=by have H:=jd (F8 s v w a);obtain⟨A,c,rfl,d,f,-⟩:=a;go_enter Tryz.func61,Tryz.ntmps61;go_wp2_with fail;refine H.o.mono ?_;rintro e h⟨rfl,m,rfl⟩;go_wp2_with fail;go_ret;exact⟨by simp,_,rfl⟩
def CZ:List ByteArray:=[⟨#[117,112,99,97,115,101]⟩,⟨#[100,111,119,110,99,97,115,101]⟩,⟨#[99,97,112,105,116,97,108,105,122,101]⟩,⟨#[112,97,115,99,97,108,99,97,115,101]⟩,⟨#[99,97,109,101,108,99,97,115,101]⟩]
def Z5(w:World)(e:Ending)(w':World):Prop:=e=.returned (.slice (some ⟨w.heap.size,0,none⟩) 5 5)/\w'=w.alloc (.cells (CZ.map Value.string).toArray 9)
theorem Rf(w:World):Calls Tryz.prog 114 #[] w (Z5 w):=by go_enter Tryz.func114,Tryz.ntmps114;go_wp2_with fail;go_ret;exact⟨rfl,rfl⟩
theorem M3:∀k,k<5->(CZ.getD k ⟨#[]⟩).size<=10:=by decide
theorem yQ:∀k,k<5->1<=(FM.names.getD k []).length/\(FM.names.getD k []).length<=10:=by decide
theorem Km{l:List Int}:∀k,k<5->FM.rW (FM.names.drop k) (1+k) l=if l.take ((FM.names.getD k []).length+1)=FM.names.getD k []++[125]then some (1+(k:Int),(FM.names.getD k []).length+1)else FM.rW (FM.names.drop (k+1)) (1+((k+1:Nat):Int)) l:=by
 intro k a;match k,a with
 |0,_=>rfl
 |1,_=>rfl
 |2,_=>rfl
 |3,_=>rfl
 |4,_=>rfl
namespace FM
theorem IG(e:Int):∀(n:Nat)(l:List Int)(t:List Int)(k:Nat),l.length<=n->text e l=some (t,k)->1<=k/\k<=l.length
|_,[],t,k,_,h=>by cases h
|_,[c],t,k,_,h=>by
 rw[text]at h;split at h
 .injection h with h;injection h with f a;subst f a;exact⟨az _,by simp⟩
 .cases h
|0,_::_::_,_,_,i,_=>by simp at i
|n+1,c::d::r,t,k,i,h=>by
 rw[text]at h;split at h
 .rw[Br]at h;obtain⟨⟨j,m⟩,f,a⟩:=h;injection a with a p;subst a p;have:=IG e n r j m (by simp at i;omega) f;exact⟨by omega,by simp;omega⟩
 split at h
 .injection h with h;injection h with f a;subst f a;exact⟨az _,by simp⟩
 .rw[Br]at h;obtain⟨⟨j,m⟩,f,a⟩:=h;injection a with a p;subst a p;have:=IG e n (d::r) j m (by simp at i⊢;omega) f;exact⟨by omega,by have:=this.2;simp at this⊢;omega⟩
end FM
theorem DW{e:Int}{s t:List Int}{i k:Nat}(h:txt e s i=some (t,k))(hi:i<=s.length):i<=k/\k<=s.length:=by unfold txt at h;rw[Br]at h;obtain⟨⟨j,m⟩,d,a⟩:=h;injection a with a f;have:=FM.IG _ _ _ _ _ (az _) d;rw[jU]at this;simp only at f;omega
def uC(g:Int)(s:List Int)(i:Nat):Option (FM.Form×Nat):=(FM.inner g (s.drop i)).map fun p=>(p.1,i+p.2)
section
variable{g:Int}{s:List Int}{i:Nat}
theorem Z6(h:s[i]?=some 47):uC g s i=(FM.Kn (s.drop (i+1))).map fun p=>(⟨1,g,p.1,[],[]⟩,i+1+p.2):=by unfold uC FM.inner;rw[qX,av h,List.tail_drop,tH];congr 1;funext p;simp;omega
theorem Z7(h:s[i]?=some 43):uC g s i=(txt 125 s (i+1)).map fun p=>(⟨2,g,0,p.1,[]⟩,p.2):=by unfold uC FM.inner txt;rw[qX,h,ae (by decide),av rfl,List.tail_drop,tH,tH];congr 1;funext p;simp;omega
theorem Z8(h:s[i]?=some 63):uC g s i=(txt 58 s (i+1)).bind fun p=>(txt 125 s p.2).map fun q=>(⟨4,g,0,p.1,q.1⟩,q.2):=by
 unfold uC FM.inner txt;rw[qX,h,ae (by decide),ae (by decide),av rfl,List.tail_drop];cases a:FM.text 58 (s.drop (i+1))with
 |none=>rfl
 |some p=>simp only[Option.map_some,Option.bind_some,List.drop_drop];rw[tH,tH];congr 1;funext q;simp;omega
theorem Z9(h:s[i]?=some 45):uC g s i=(txt 125 s (i+1)).map fun p=>(⟨3,g,0,[],p.1⟩,p.2):=by unfold uC FM.inner txt;rw[qX,h,ae (by decide),ae (by decide),ae (by decide),av rfl,List.tail_drop,tH,tH];congr 1;funext p;simp;omega
theorem aaa(a:s[i]?≠some 47)(d:s[i]?≠some 43)(e:s[i]?≠some 63)(f:s[i]?≠some 45):uC g s i=(txt 125 s i).map fun p=>(⟨3,g,0,[],p.1⟩,p.2):=by unfold uC FM.inner txt;rw[qX,ae a,ae d,ae e,ae f,tH,tH];rfl
end
def CF(B:Nat)(w:World)(cs:List Value)(f:FM.Form):Prop:=∃vt ve,cs=[.int .i64 f.kind,.int .i64 f.group,.int .i64 f.rX,vt,ve]/\aT 21 1 Cc B w vt f.text/\aT 21 1 Cc B w ve f.els
theorem Ext.adu{w W:World}{o:Nat}{u:Value}(h:Ext w W):Ext w (W.setCell ⟨w.heap.size,o,none⟩ u):=h.set (az _) u
abbrev ek:=@Ext.adu
theorem CF.mkW{a W:World}{nb B:Nat}{h:Array Value}{k g c:Int}{vt i:Value}{t e:List Int}(d:a.heap[nb]?=some (.cells h 109 (0,0)))(f:Only a W nb)(j:aT 21 1 Cc B a vt t)(m:aT 21 1 Cc B a i e):CF B W [.int .i64 k,.int .i64 g,.int .i64 c,vt,i] ⟨k,g,c,t,e⟩:=⟨vt,i,rfl,j.keep (dQ []) (f.gM d (by decide)) (f.gM d (by decide)),m.keep (dQ []) (f.gM d (by decide)) (f.gM d (by decide))⟩
def jD(s:List Int)(i:Nat):Option (FM.Form×Nat):=(FM.part (s.drop (i+1))).map fun p=>(p.1,i+1+p.2)
section
variable{s:List Int}{i k:Nat}{n:Int}
theorem Uk(h:FM.number (s.drop (i+1))=some (n,k)):jD s i=some (⟨1,n,0,[],[]⟩,i+1+k):=by unfold jD FM.part;rw[h];rfl
theorem XC(h:FM.number (s.drop (i+1))=none)(a:s[i+1]?≠some 123):jD s i=none:=by unfold jD FM.part;rw[h];simp only;rw[qX,ae a];rfl
theorem XD(h:FM.number (s.drop (i+1))=none)(a:s[i+1]?=some 123)(d:FM.number (s.drop (i+2))=none):jD s i=none:=by unfold jD FM.part;rw[h];simp only;rw[qX,av a,List.tail_drop,d];rfl
theorem Ul(h:FM.number (s.drop (i+1))=none)(a:s[i+1]?=some 123)(d:FM.number (s.drop (i+2))=some (n,k))(e:s[i+2+k]?=some 125):jD s i=some (⟨1,n,0,[],[]⟩,i+2+k+1):=by unfold jD FM.part;rw[h];simp only;rw[qX,av a,List.tail_drop,d];simp only;rw[List.drop_drop,qX,show i+1+1+k=i+2+k by omega,av e];simp;omega
theorem XE(h:FM.number (s.drop (i+1))=none)(a:s[i+1]?=some 123)(d:FM.number (s.drop (i+2))=some (n,k))(e:s[i+2+k]?=some 58):jD s i=uC n s (i+2+k+1):=by unfold jD FM.part uC;rw[h];simp only;rw[qX,av a,List.tail_drop,d];simp only;rw[List.drop_drop,qX,show i+1+1+k=i+2+k by omega,e,ae (by decide),av rfl,List.tail_drop,tH];congr 1;funext p;simp;omega
theorem Um(h:FM.number (s.drop (i+1))=none)(a:s[i+1]?=some 123)(d:FM.number (s.drop (i+2))=some (n,k))(e:s[i+2+k]?≠some 125)(f:s[i+2+k]?≠some 58):jD s i=none:=by unfold jD FM.part;rw[h];simp only;rw[qX,av a,List.tail_drop,d];simp only;rw[List.drop_drop,qX,show i+1+1+k=i+2+k by omega,ae e,ae f];rfl
end
theorem Rh{l:List Int}{n:Int}{k:Nat}(h:FM.number l=some (n,k)):k<=l.length:=(FM.zY h).2.2.2.2
end Go.Proofs.YtcogknbbbjnaiaaGreatDoor
