/- For ShowTells: what the texts XFdS XFdO XFdP XFdQ XRaA XRaB XRaC XRaD XRaE XRaF XSmR XSrR of wip/tpl say. -/
import Derived.Test.YtcogknbbbjnaiaaGreatDoorR
import Derived.ChangeAlike
set_option maxRecDepth 100000
set_option maxHeartbeats 4000000
namespace Go.Proofs.YtcogknbbbjnaiaaGreatDoor
open Go.RowKit
theorem Ea(v z:Value)(xs ys:List Int)(w:World)(C:ib w v xs)(D:ib w z ys):Calls Tryz.prog 19 #[v,z] w (qL (.bool (decide (xs=ys))) w):=by
 have H:=jd C;have I:=jd D;obtain⟨A,O,rfl,J,K,_⟩:=C;obtain⟨B,P,rfl,Q,L,_⟩:=D;by_cases f:xs.length=ys.length
 .have t:((xs.length:Int)!=ys.length)=false:=by simp[f]
  have E:=jd f;clear f;go_enter Tryz.func19,Tryz.ntmps19;go_wp2_with fail;go_loopw[5](fun i wr=>∃k:Nat,k<=xs.length/\i=.int .i64 k/\(∀j,j<k->xs[j]?=ys[j]?)/\Ext w wr)(fun i _=>xs.length-(intOf i).toNat);case atStart=>exact⟨0,aL _,rfl,by intro j F;omega,aa w⟩
  case round=>
   obtain⟨k,R,rfl,a,m⟩:=hrel;have G:=jd a;clear a;by_cases p:k<xs.length
   .have d:k<ys.length:=by have:=E.o;omega
    obtain⟨b,o,rfl,S⟩:=(H.o.ext m).at_ p;obtain⟨T,U,rfl,M⟩:=(I.o.ext m).at_ d;by_cases r:xs[k]=ys[k]
    .have u:(xs[k]!=ys[k])=false:=by simp[r]
     have N:=jd r;clear r;go_wp2_with fail;go_quiet(fail);go_wp2_with fail;go_roundw;case rel=>exact⟨k+1,by omega,by go_num,by intro j F;rcases Nat.lt_succ_iff_lt_or_eq.1 F with h|rfl;exact G.o j h;rw[aU p,aU d,N.o],m.drewN _⟩
     case measure=>simp[intOf];omega
    .have u:(xs[k]!=ys[k])=true:=by simp[r]
     have e:decide (xs=ys)=false:=bR (fun h=>r (by subst h;rfl));have s:=jd e;clear e;go_wp2_with fail;go_quiet(fail);go_wp2_with fail;go_ret;exact⟨by rw[s.o];rfl,m.drewN _⟩
   .have e:decide (xs=ys)=true:=bJ (List.ext_getElem? fun j=>by
     rcases fC j k with h|h
     .exact G.o j h
     .rw[gD (by omega),gD (by have:=E.o;omega)]);have s:=jd e;clear e;go_wp2_with fail;go_ret;exact⟨by rw[s.o];rfl,m⟩
 .have t:((xs.length:Int)!=ys.length)=true:=by simp;omega
  have e:decide (xs=ys)=false:=bR (fun h=>f (by rw[h]));have s:=jd e;clear e f;go_enter Tryz.func19,Tryz.ntmps19;go_wp2_with fail;go_ret;exact⟨by rw[s.o];rfl,aa _⟩
def Rt(k:Int)(n:Nat):Nat:=(k%4294967296).toNat%n
theorem and_low32(n:Int):bits .and .i64 n 4294967295=n%4294967296:=by
 have a:(BitVec.ofInt 64 4294967295).toNat=2^32-1:=by decide
 have d:(BitVec.ofInt 64 n&&&BitVec.ofInt 64 4294967295).toNat=(n%((2^64:Nat):Int)).toNat%2^32:=by rw[BitVec.toNat_and,BitVec.toNat_ofInt,a,Nat.and_two_pow_sub_one_eq_mod]
 show IntKind.i64.wrap ((BitVec.ofInt 64 n&&&BitVec.ofInt 64 4294967295).toNat:Nat)=n%4294967296;rw[d,IntKind.wrap_i64];omega
theorem Nc{x n:Int}(d:1<=n):(x%4294967296).tmod n=((Rt x n.toNat:Nat):Int):=by
 have a:0<=x%4294967296:=by omega
 unfold Rt;rw[Int.tmod_eq_emod_of_nonneg a,Int.natCast_emod,Int.toNat_of_nonneg a,Int.toNat_of_nonneg (by omega)]
theorem XM(k:Int){n:Nat}(h:1<=n):Rt k n<n:=Nat.mod_lt _ h
theorem Ku(k n:Int)(w:World)(d:1<=n/\n<=35184372088832):Calls Tryz.prog 21 #[.int .i64 k,.int .i64 n] w (qL (.int .i64 (Rt k n.toNat:Nat)) w):=by obtain⟨a,e⟩:=d;go_enter Tryz.func21,Tryz.ntmps21;go_wp2_with fail;go_ret;refine⟨?_,aa _⟩;show Ending.returned (.int .i64 ((bits .and .i64 k 4294967295).tmod n))=_;rw[and_low32,Nc a]
theorem Hf{b:ByteArray}{k:Nat}(h:k<b.size):(signs b)[k]?=some (b[k].toNat:Int):=by
 have a:k<(signs b).length:=by rw[lN];exact h
 rw[aU a];simp[signs];rfl
theorem sG(r:Int)(w:World):Calls Tryz.prog 25 #[.int .i32 r] w (qV (FM.Cw r) w):=by
 by_cases a:48<=r<;>by_cases d:r<=57;all_goals
  go_enter Tryz.func25,Tryz.ntmps25;go_wp2_with fail;go_ret;exact⟨aH (by simp[FM.Cw];omega),rfl⟩
theorem Dj(bs:ByteArray)(c:Int)(w:World)(B:bs.size<=1000):Calls Tryz.prog 55 #[.string bs,.int .i32 c] w (qV (decide (c∈signs bs)) w):=by
 go_enter Tryz.func55,Tryz.ntmps55;go_wp2_with fail;go_loop[5](fun i=>∃k:Nat,k<=bs.size/\i=.int .i64 k/\∀j,j<k->(signs bs)[j]?≠some c)(fun i=>bs.size-(intOf i).toNat);case atStart=>exact⟨0,aL _,rfl,by intro j f;omega⟩
 case round=>
  obtain⟨k,C,rfl,a⟩:=hrel;have u:=jd a;clear a;by_cases r:k<bs.size
  .have m:=Hf r;have p:=ry bs[k];by_cases d:(bs[k].toNat:Int)=c
   .have v:(wrap32 (bs[k].toNat:Int)==c)=true:=by rw[p,d];simp
    have s:((bs[k].toNat:Int)==c)=true:=by rw[d];simp
    have t:=jd (show decide (c∈signs bs)=true from bJ (tJ (by rw[m,d])));clear d m p;go_wp2_with fail;go_ret;exact⟨by rw[t.o];rfl,rfl⟩
   .have v:(wrap32 (bs[k].toNat:Int)==c)=false:=by rw[p];simpa using d
    have s:((bs[k].toNat:Int)==c)=false:=by simpa using d
    have z:=jd (show∀j,j<k+1->(signs bs)[j]?≠some c by
     intro j f;rcases Nat.lt_succ_iff_lt_or_eq.1 f with h|rfl
     .exact u.o j h
     .rw[m];intro e;injection e with e;exact d e);clear d m p;go_wp2_with fail;go_round;case rel=>exact⟨k+1,by omega,by go_num,z.o⟩
    case measure=>simp[intOf];omega
  .have t:=jd (show decide (c∈signs bs)=false from bR (by intro A;obtain⟨j,f,e⟩:=um.1 A;exact u.o j (by rw[lN]at f;omega) (by rw[aU f,e])));go_wp2_with fail;go_ret;exact⟨by rw[t.o];rfl,rfl⟩
theorem AP(c:Int)(w:World):Calls Tryz.prog 55 #[.string {data:=#[92,125,58,36,47]},.int .i32 c] w (qV (decide (c∈FM.marks)) w):=Dj ⟨#[92,125,58,36,47]⟩ c w (by decide)
theorem Hg(c:Int)(w:World):Calls Tryz.prog 55 #[.string {data:=#[92,36,125,47]},.int .i32 c] w (qV (decide (c∈FM.outer)) w):=Dj ⟨#[92,36,125,47]⟩ c w (by decide)
def WT(s:List Int)(i:Nat)(t:List Int):Bool:=decide ((s.drop i).take t.length=t)
theorem NH(s:List Int)(C:Value)(i:Nat)(t:ByteArray)(w:World)(D:ib w C s)(hi:i<=s.length)(S:t.size<=1000):Calls Tryz.prog 96 #[C,.int .i64 (i:Int),.string t] w (lW (.bool (WT s i (signs t))) w):=by
 have H:=jd D;obtain⟨A,T,rfl,J,K,-⟩:=D;by_cases E:t.size<=s.length-i
 .have L:decide ((s.length:Int)-(i:Int)<(t.size:Int))=false:=by simp;omega
  go_enter Tryz.func96,Tryz.ntmps96;go_wp2_with fail;go_loopw[7](fun j wr=>∃k:Nat,k<=t.size/\j=.int .i64 k/\(∀j,j<k->(signs t)[j]?=s[i+j]?)/\∃m,wr=w.drewN m)(fun j _=>t.size-(intOf j).toNat);case atStart=>exact⟨0,aL _,rfl,by intro j F;omega,0,rfl⟩
  case round=>
   obtain⟨k,U,rfl,d,m,rfl⟩:=hrel;have G:=jd d;clear d;by_cases r:k<t.size
   .have v:=Hf r;have z:=ry t[k];have e:i+k<s.length:=by omega
    obtain⟨b,o,rfl,M⟩:=H.o.at_ e;have I:(i:Int)+(k:Int)<s.length:=by omega
    have N:IntKind.i64.wrap ((i:Int)+(k:Int))=(i:Int)+(k:Int):=jA _ (by omega);have O:0<=(i:Int)+(k:Int):=by omega
    have P:((i:Int)+(k:Int)).toNat=i+k:=by omega
    have a:=aU e;generalize s[i+k]=y at M a;by_cases f:y=(t[k].toNat:Int)
    .have Q:(y !=wrap32 (t[k].toNat:Int))=false:=by rw[z];simp[f]
     have B:(y !=(t[k].toNat:Int))=false:=by simp[f]
     have R:=jd (show∀j,j<k+1->(signs t)[j]?=s[i+j]? by
      intro j F;rcases Nat.lt_succ_iff_lt_or_eq.1 F with h|rfl
      .exact G.o j h
      .rw[v,a,f]);clear f v z a;go_wp2_with fail;go_quiet(fail);go_wp2_with fail;go_roundw;case rel=>exact⟨k+1,by omega,by go_num,R.o,_,rfl⟩
     case measure=>simp[intOf];omega
    .have Q:(y !=wrap32 (t[k].toNat:Int))=true:=by rw[z];simpa using f
     have B:(y !=(t[k].toNat:Int))=true:=by simpa using f
     have u:=jd (show WT s i (signs t)=false from bR (by intro h;have p:=congrArg (fun l=>l[k]?) h;simp only[pY,List.getElem?_drop]at p;rw[av (by rw[lN];exact r),a,v]at p;injection p with p;exact f p));clear f v z a;go_wp2_with fail;go_quiet(fail);go_wp2_with fail;go_ret;exact⟨by rw[u.o];rfl,dd⟩
   .have u:=jd (show WT s i (signs t)=true from bJ (by
     apply List.ext_getElem?;intro j;rw[pY];split
     .rename_i h;rw[lN]at h;rw[List.getElem?_drop,G.o j (by omega)]
     .rename_i h;rw[gD (by omega)]));go_wp2_with fail;go_ret;exact⟨by rw[u.o];rfl,m,rfl⟩
 .have L:decide ((s.length:Int)-(i:Int)<(t.size:Int))=true:=by simp;omega
  have u:=jd (show WT s i (signs t)=false from bR (by intro h;have p:=congrArg List.length h;rw[kg,jU,lN]at p;omega));go_enter Tryz.func96,Tryz.ntmps96;go_wp2_with fail;go_ret;exact⟨by rw[u.o];rfl,0,rfl⟩
theorem vU{s:List Int}{i:Nat}{a:Int}:WT s i [a]=decide (s[i]?=some a):=by
 unfold WT;rw[decide_eq_decide];rcases fC i s.length with h|h
 .rw[ed h,aU h];show([s[i]]=[a])<->(some s[i]=some a);simp
 .rw[jg h,gD h];simp
theorem kv{s:List Int}{i:Nat}{a b:Int}:WT s i [a,b]=decide (s[i]?=some a/\s[i+1]?=some b):=by
 unfold WT;rw[decide_eq_decide];rcases fC i s.length with h|h
 .rw[ed h,aU h];rcases fC (i+1) s.length with d|d
  .rw[ed d,aU d];show([s[i],s[i+1]]=[a,b])<->(some s[i]=some a/\some s[i+1]=some b);simp
  .rw[jg d,gD d];simp
 .rw[jg h,gD h];simp
def Zl(b:ByteArray)(w:World)(e:Ending)(w':World):Prop:=e=.returned (.string b)/\w=w'
theorem zq(c:Int)(a:1<=c)(d:c<=5)(w:World):Calls Tryz.prog 80 #[.int .i64 c] w (Zl (CZ.getD (c.toNat-1) ⟨#[]⟩) w):=by
 have:c=1\/c=2\/c=3\/c=4\/c=5:=by omega
 rcases this with rfl|rfl|rfl|rfl|rfl;all_goals
  go_enter Tryz.func80,Tryz.ntmps80;go_wp2_with fail;go_ret;exact⟨rfl,rfl⟩
def acf(R:Option (Int×Nat))(i:Nat):Int×Int:=match R with|some (n,k)=>(n,((i+k:Nat):Int))|none=>(0,0)
theorem RQ:∀l:List Int,l.length<=3->(∀c∈l,48<=c/\c<=57)->0<=FM.val l/\FM.val l<=999
|[],_,_=>by simp[FM.val]
|[a],_,h=>by have:=h a (by simp);simp[FM.val];omega
|[a,b],_,h=>by have:=h a (by simp);have:=h b (by simp);simp[FM.val];omega
|[a,b,c],_,h=>by have:=h a (by simp);have:=h b (by simp);have:=h c (by simp);simp[FM.val];omega
|_::_::_::_::_,h,_=>by simp at h
theorem RU:∀l:List Int,∀a:FM.iZ l<l.length,FM.Cw l[FM.iZ l]=false:=by
 intro l;induction l with
 |nil=>intro a;simp at a
 |cons c r f=>
  intro a;by_cases d:FM.Cw c=true
  .have e:FM.iZ (c::r)=FM.iZ r+1:=by simp[FM.iZ,d]
   simp only[e];exact f (by rw[e]at a;simpa using a)
  .have e:FM.iZ (c::r)=0:=by simp[FM.iZ,d]
   simp only[e];simpa using d
theorem K6(s:List Int)(N:Value)(i:Nat)(w:World)(O:ib w N s)(hi:i<=s.length):Calls Tryz.prog 95 #[N,.int .i64 (i:Int)] w (Uh (.int .i64 (acf (FM.number (s.drop i)) i).1) (.int .i64 (acf (FM.number (s.drop i)) i).2) w):=by
 have H:=jd O;obtain⟨A,ca,rfl,T,U,-⟩:=O;obtain⟨R,E⟩:∃R,FM.number (s.drop i)=R:=⟨_,rfl⟩;rw[E];have F:=jd E;clear E;obtain⟨D,d⟩:∃D,FM.iZ (s.drop i)=D:=⟨_,rfl⟩;have X:i+D<=s.length:=by have:=FM.CY (s.drop i);rw[d,jU]at this;omega
 have G:=jd d;have P:=jd (show∀k(h:k<D),FM.Cw (s[i+k]'(by omega))=true by intro k h;have:=Kk (s.drop i) k (by omega);simpa using this);have Y:=jd (show∀(h:i+D<s.length),FM.Cw s[i+D]=false by
  intro h;have Q:=RU (s.drop i) (by rw[d,jU];omega);have I:(s.drop i)[FM.iZ (s.drop i)]'(by rw[d,jU];omega)=s[i+D]:=by simp[d]
  rw[I]at Q;exact Q);clear d;have S:=jd sG;obtain⟨M,hM⟩:∃M,min D 3=M:=⟨_,rfl⟩;have Z:M<=D:=by omega
 have hM2:M<=3:=by omega
 have J:M<3->M=D:=by omega
 go_enter Tryz.func95,Tryz.ntmps95;go_upto_block 0 with fail;go_cut[6,7](fun n k wx=>n=.int .i64 (FM.val ((s.drop i).take M))/\k=.int .i64 (M:Int)/\wx=w);case first=>
  go_wp2_with fail;go_loop[6,7](fun n x=>∃k:Nat,k<=M/\n=.int .i64 (FM.val ((s.drop i).take k))/\x=.int .i64 (k:Int))(fun _ x=>3-(intOf x).toNat);case atStart=>exact⟨0,aL _,rfl,rfl⟩
  case round=>
   obtain⟨k,hk,rfl,rfl⟩:=hrel;have m:=RQ ((s.drop i).take k) (by rw[kg];omega) (by intro c z;obtain⟨j,hj,rfl⟩:=List.mem_take_iff_getElem.1 z;have:=P.o j (by omega);simp only[List.getElem_drop];simpa[FM.Cw]using this);obtain⟨V,B⟩:∃V,FM.val ((s.drop i).take k)=V:=⟨_,rfl⟩;have C:=jd B;rw[B]at m;rw[B];obtain⟨hv0,hv9⟩:=m;clear B;by_cases p:i+k<s.length
   .obtain⟨b,o,rfl,z⟩:=H.o.at_ p;have r:(i:Int)+(k:Int)<s.length:=by omega
    by_cases hk3:k<3
    .have K:(k:Int)<3:=by omega
     by_cases L:k<D
     .have hkm:k<M:=by omega
      have f:=jd (P.o k L);have a:=Ui ((s.drop i).take k) s[i+k];have e:(s.drop i).take k++[s[i+k]]=(s.drop i).take (k+1):=by rw[kE (by rw[jU];omega)];simp
      rw[e,C.o]at a;have t:48<=s[i+k]/\s[i+k]<=57:=by simpa[FM.Cw]using f.o
      generalize s[i+k]=x at z f t a;have WN:=jd a;obtain⟨hd1,hd2⟩:=t;clear a e;go_wp2_with(go_at_call 25;refine(S.o x _).mono ?_;rw[f.o];rintro e w2⟨rfl,rfl⟩);go_round;case rel=>exact⟨k+1,by omega,by rw[WN.o],by go_num⟩
      case measure=>simp[intOf];omega
     .obtain rfl:k=D:=by omega
      obtain rfl:k=M:=by omega
      have f:=jd (Y.o p);generalize s[i+k]=x at z f;go_wp2_with(go_at_call 25;refine(S.o x _).mono ?_;rw[f.o];rintro e w2⟨rfl,rfl⟩);go_meet;exact⟨by rw[C.o],rfl,rfl⟩
    .obtain rfl:k=M:=by omega
     have K:¬(k:Int)<3:=by omega
     go_wp2_with fail;go_meet;exact⟨by rw[C.o],rfl,rfl⟩
   .obtain rfl:k=M:=by omega
    have r:¬(i:Int)+(k:Int)<s.length:=by omega
    go_wp2_with fail;go_meet;exact⟨by rw[C.o],rfl,rfl⟩
 case rest=>
  obtain⟨rfl,rfl,hw⟩:=hcut;subst hw;by_cases h0:M=0
  .have u:=jd (show R=none by rw[<-F.o];unfold FM.number;rw[G.o,av (by omega)]);have e1:((M:Int)==0)=true:=by simp[h0]
   go_wp2_with fail;go_ret2;exact⟨by rw[u.o];rfl,aa _⟩
  .have e1:((M:Int)==0)=false:=by simp;omega
   by_cases I:M=3
   .have u:=jd (show R=none by rw[<-F.o];unfold FM.number;rw[G.o,av (by omega)]);have e3:((M:Int)==3)=true:=by simp[I]
    go_wp2_with fail;go_ret2;exact⟨by rw[u.o];rfl,aa _⟩
   .have e3:((M:Int)==3)=false:=by simp;omega
    have v:=J (by omega);have u:=jd (show R=some (FM.val ((s.drop i).take M),M)by rw[<-F.o];unfold FM.number;rw[G.o,ae (by omega),v]);clear v;go_wp2_with fail;go_ret2;exact⟨by rw[u.o];rfl,aa _⟩
def aaq(R:Option (List Int×Nat))(w:World)(en:Ending)(w':World):Prop:=Ext w w'/\((∃t k A c,R=some (t,k)/\en=.returned (.tuple #[.slice A t.length c,.int .i64 (k:Int)])/\aT 21 1 Cc w.heap.size w' (.slice A t.length c) t)\/(R=none/\en=.returned (.tuple #[.slice none 0 0,.int .i64 0])))
theorem RV(e:Int)(Z:e≠92)(s:List Int)(vs:Value)(i:Nat)(w:World)(hs:ib w vs s)(hsl:s.length<=35184372088832)(hi:i<=s.length):Calls Tryz.prog 97 #[vs,.int .i64 (i:Int),.int .i32 e] w (aaq (txt e s i) w):=by
 have H:=jd hs;obtain⟨A,ca,rfl,hlx,hcx,-⟩:=hs;have Ux:=jd AP;have P:=jd Z;obtain⟨R,Q⟩:∃R,txt e s i=R:=⟨_,rfl⟩;rw[Q];have HR:=jd (show(FM.text e (s.drop i)).map (fun p=>([]++p.1,i+p.2))=R from Q);clear Q Z;go_enter Tryz.func97,Tryz.ntmps97;go_wp2_with fail;go_loopw[1,8](fun a v wr=>∃(k:Nat)(acc:List Int),k<=s.length/\a=.int .i64 k/\iT w v acc wr/\acc.length<=k/\(FM.text e (s.drop k)).map (fun p=>(acc++p.1,k+p.2))=R)(fun a _ _=>s.length-(intOf a).toNat);case atStart=>exact⟨i,[],hi,rfl,⟨dO,aa w⟩,aL _,HR.o⟩
 case round=>
  obtain⟨k,acc,hk,rfl,G,hal,hT⟩:=hrel;have f:=jd G;have J:=jd hT;obtain⟨Ao,co,rfl,hco,hcm⟩:=G.own.form;clear hT G;by_cases t:k<s.length
  .obtain⟨b,o,rfl,L⟩:=(H.o.ext f.o.ext).at_ t;by_cases j:s[k]=e
   .have B:(s[k]==e)=true:=by simpa using j
    have d:=jd ((UC (acc:=acc) t P.o j).symm.trans J.o);clear j;generalize s[k]=x at L B;go_wp2_with fail;go_ret2;exact⟨f.o.ext,.inl ⟨acc,k+1,_,_,d.o.symm,rfl,f.o.own.sl⟩⟩
   have B:(s[k]==e)=false:=by simpa using j
   by_cases F:s[k]=92
   .have M:(s[k]==92)=true:=by simpa using F
    by_cases E:k+1<s.length
    .have Vb:(k:Int)+1<s.length:=by omega
     obtain⟨b',o',S,N⟩:=(H.o.ext f.o.ext).at_ E;injection S with S;injection S with T U;subst T U;by_cases K:s[k+1]∈FM.marks
     .have d:=jd ((XN (e:=e) (acc:=acc) E F K).symm.trans J.o);have O:=jd (show decide (s[k+1]∈FM.marks)=true from bJ K);clear F j K;generalize s[k]=x at L M B;generalize s[k+1]=y at N O d;go_wp2_with(first|(go_at_call 55;refine(Ux.o y _).mono ?_;rw[O.o];rintro e' w2⟨rfl,rfl⟩)|(at_builtin;refine eX rfl _ _ rfl w.heap.size _ acc [y] f.o.own.jC rfl ⟨wr.heap.size,0,none⟩ 1 1 rfl rfl (jE rfl) ?hn ?hB ?_;(case hn=>(simp only[aF,aN];omega));(case hB=>exact aG f.o.size (by simp));intro V X r C;generalize u:acc++[y]=D at r;have I:=jd u;have m:D.length=acc.length+1:=(by rw[<-u,ai];rfl);have z:=jd m;obtain⟨Y,c2,rfl,-⟩:=r.form;have f:=jd (iT.app (iW f.o) r C);clear r C u m));go_roundw;case rel=>exact⟨k+2,D,by omega,by go_num,f.o,by have:=z.o;omega,by rw[<-I.o];exact d.o⟩
      case measure=>simp[intOf];omega
     .have d:=jd ((Ab (e:=e) (acc:=acc) t j (fun h=>by obtain⟨_,_,h⟩:=h;exact K h)).symm.trans J.o);have O:=jd (show decide (s[k+1]∈FM.marks)=false from bR K);clear F j K;generalize s[k]=x at L M B d;generalize s[k+1]=y at N O;go_wp2_with(first|(go_at_call 55;refine(Ux.o y _).mono ?_;rw[O.o];rintro e' w2⟨rfl,rfl⟩)|(at_builtin;refine eX rfl _ _ rfl w.heap.size _ acc [x] f.o.own.jC rfl ⟨wr.heap.size,0,none⟩ 1 1 rfl rfl (jE rfl) ?hn ?hB ?_;(case hn=>(simp only[aF,aN];omega));(case hB=>exact aG f.o.size (by simp));intro V X r C;generalize u:acc++[x]=D at r;have I:=jd u;have m:D.length=acc.length+1:=(by rw[<-u,ai];rfl);have z:=jd m;obtain⟨Y,c2,rfl,-⟩:=r.form;have f:=jd (iT.app (iW f.o) r C);clear r C u m));go_roundw;case rel=>exact⟨k+1,D,by omega,by go_num,f.o,by have:=z.o;omega,by rw[<-I.o];exact d.o⟩
      case measure=>simp[intOf];omega
    .have d:=jd ((Ab (e:=e) (acc:=acc) t j (fun h=>by obtain⟨_,h,_⟩:=h;exact E h)).symm.trans J.o);have Vb:¬(k:Int)+1<s.length:=by omega
     clear F j E;generalize s[k]=x at L M B d;go_wp2_with(at_builtin;refine eX rfl _ _ rfl w.heap.size _ acc [x] f.o.own.jC rfl ⟨wr.heap.size,0,none⟩ 1 1 rfl rfl (jE rfl) ?hn ?hB ?_;(case hn=>(simp only[aF,aN];omega));(case hB=>exact aG f.o.size (by simp));intro V X r C;generalize u:acc++[x]=D at r;have I:=jd u;have m:D.length=acc.length+1:=(by rw[<-u,ai];rfl);have z:=jd m;obtain⟨Y,c2,rfl,-⟩:=r.form;have f:=jd (iT.app (iW f.o) r C);clear r C u m);go_roundw;case rel=>exact⟨k+1,D,by omega,by go_num,f.o,by have:=z.o;omega,by rw[<-I.o];exact d.o⟩
     case measure=>simp[intOf];omega
   .have M:(s[k]==92)=false:=by simpa using F
    have d:=jd ((Ab (e:=e) (acc:=acc) t j (fun h=>F h.1)).symm.trans J.o);clear F j;generalize s[k]=x at L M B d;go_wp2_with(at_builtin;refine eX rfl _ _ rfl w.heap.size _ acc [x] f.o.own.jC rfl ⟨wr.heap.size,0,none⟩ 1 1 rfl rfl (jE rfl) ?hn ?hB ?_;(case hn=>(simp only[aF,aN];omega));(case hB=>exact aG f.o.size (by simp));intro V X r C;generalize u:acc++[x]=D at r;have I:=jd u;have m:D.length=acc.length+1:=(by rw[<-u,ai];rfl);have z:=jd m;obtain⟨Y,c2,rfl,-⟩:=r.form;have f:=jd (iT.app (iW f.o) r C);clear r C u m);go_roundw;case rel=>exact⟨k+1,D,by omega,by go_num,f.o,by have:=z.o;omega,by rw[<-I.o];exact d.o⟩
    case measure=>simp[intOf];omega
  .have d:=jd ((XO (e:=e) (acc:=acc) (by omega)).symm.trans J.o);have hge:¬k<s.length:=t;clear t;go_wp2_with fail;go_ret2;exact⟨f.o.ext,.inr ⟨d.o.symm,rfl⟩⟩
theorem acg{s:List Int}{v:Value}{w:World}(H:ib w v s){i:Nat}(hi:i<=s.length)(t:ByteArray)(a:t.size<=1000)(b:Bool)(d:WT s i (signs t)=b)(W:World)(e:Ext w W):Calls Tryz.prog 96 #[v,.int .i64 (i:Int),.string t] W (lW (.bool b) W):=by subst d;exact NH s v i t W (H.ext e) hi a
theorem NI(k:Nat)(a:k<5)(W:World):Calls Tryz.prog 80 #[.int .i64 (1+(k:Int))] W (Zl (CZ.getD k ⟨#[]⟩) W):=by
 have:=zq (1+(k:Int)) (by omega) (by omega) W;have e:(1+(k:Int)).toNat-1=k:=by omega
 rw[e]at this;exact this
theorem NJ:∀k,k<5->signs (CZ.getD k ⟨#[]⟩++⟨#[125]⟩)=FM.names.getD k []++[125]:=by
 intro k a;match k,a with
 |0,_=>decide
 |1,_=>decide
 |2,_=>decide
 |3,_=>decide
 |4,_=>decide
def Two(g1 g2:Nat)(w w':World):Prop:=∀i:Nat,i≠g1->i≠g2->w'.heap[i]?=w.heap[i]?
theorem Two.refl(a d:Nat)(w:World):Two a d w w:=fun _ _ _=>rfl
theorem Two.set1{d e o:Nat}{w a:World}{u:Value}(h:Two d e w a):Two d e w (a.setCell ⟨d,o,none⟩ u):=fun i f j=>(eu f).trans (h i f j)
theorem Two.set2{e d o:Nat}{w a:World}{u:Value}(h:Two e d w a):Two e d w (a.setCell ⟨d,o,none⟩ u):=fun i j f=>(eu f).trans (h i j f)
theorem Two.drewN{d e n:Nat}{w a:World}(h:Two d e w a):Two d e w (a.drewN n):=h
theorem CF.mk2{a W:World}{r s B:Nat}{c1 c2:Array Value}{k g c:Int}{vt m:Value}{t e:List Int}(d:a.heap[r]?=some (.cells c1 109 (0,0)))(f:a.heap[s]?=some (.cells c2 109 (0,0)))(u:Two r s a W)(v:aT 21 1 Cc B a vt t)(w:aT 21 1 Cc B a m e):CF B W [.int .i64 k,.int .i64 g,.int .i64 c,vt,m] ⟨k,g,c,t,e⟩:=by
 have j:aV [21] a W:=by
  intro i z A h p;simp only[List.mem_singleton]at h;subst h;refine(u i (fun e=>?_) (fun e=>?_)).trans p
  .subst e;rw[p]at d;injection d with d;injection d with _ d _;exact absurd d (by decide)
  .subst e;rw[p]at f;injection f with f;injection f with _ f _;exact absurd f (by decide)
 exact⟨vt,m,rfl,v.keep (dQ []) (j.sub (by simp)) j,w.keep (dQ []) (j.sub (by simp)) j⟩
theorem aV.RY{w:World}{g o:Nat}{a:Array Value}{u:Value}(h:w.heap[g]?=some (.cells a 109 (0,0))):aV [21] w (w.setCell ⟨g,o,none⟩ u):=Only.gM (w':=w.setCell ⟨g,o,none⟩ u) ((aJ w g).set u) h (by decide)
theorem aT.EG{B:Nat}{w w':World}{v:Value}{xs:List Int}(h:aT 21 1 Cc B w v xs)(a:aV [21] w w'):aT 21 1 Cc B w' v xs:=h.keep (dQ []) (a.sub (by simp)) a
theorem Ext.adY{w W:World}{g o:Nat}{u:Value}(a:w.heap.size<=g)(h:Ext w W):Ext w (W.setCell ⟨g,o,none⟩ u):=h.set (p:=⟨g,o,none⟩) a u
abbrev eY:=@Ext.adY
def adZ(R:Option (FM.Form×Nat))(n:Int)(nb:Nat)(w:World)(s9:Value)(wx:World):Prop:=∃(K:Int)(At:Option Addr)(lt ct:Nat)(Ae:Option Addr)(le ce:Nat),wx.heap[nb]?=some (.cells #[.int .i64 K,.int .i64 n,.int .i64 0,.slice At lt ct,.slice Ae le ce] 109 (0,0))/\
 wx.heap[w.heap.size]?=some (.cells #[.int .i64 0,.int .i64 0,.int .i64 0,.slice none 0 0,.slice none 0 0] 109 (0,0))/\Ext w wx/\
 ((R=none/\s9=.int .i64 0)\/∃(t e:List Int)(k:Nat),R=some (⟨K,n,0,t,e⟩,k)/\1<=k/\s9=.int .i64 (k:Int)/\aT 21 1 Cc w.heap.size wx (.slice At lt ct) t/\aT 21 1 Cc w.heap.size wx (.slice Ae le ce) e)
def aas(R:Option (FM.Form×Nat))(w:World)(e:Ending)(w':World):Prop:=Ext w w'/\((∃f k cs,R=some (f,k)/\e=.returned (.tuple #[.agg cs.toArray,.int .i64 (k:Int)])/\CF w.heap.size w' cs f)\/(R=none/\e=.returned (.tuple #[.agg #[.int .i64 0,.int .i64 0,.int .i64 0,.slice none 0 0,.slice none 0 0],.int .i64 0])))
theorem RZ(s:List Int)(vs:Value)(i:Nat)(w:World)(hs:ib w vs s)(hsl:s.length<=35184372088832)(hi:i<s.length):Calls Tryz.prog 74 #[vs,.int .i64 (i:Int)] w (aas (jD s i) w):=by
 have H:=jd hs;obtain⟨R,hR⟩:∃R,jD s i=R:=⟨_,rfl⟩;rw[hR];have HR:=jd hR;clear hR;obtain⟨A,ca,rfl,hlx,hcx,-⟩:=hs;have HNU:=jd (fun(j:Nat)(hj:j<=s.length)(W:World)(hW:Ext w W)=>K6 s _ j W (H.o.ext hW) hj);have C:=jd (fun(j:Nat)(hj:j<=s.length)(t:ByteArray)(ht:t.size<=1000)(b:Bool)(f:WT s j (signs t)=b)=>acg H.o hj t ht b f);have Vd:=jd (fun(e:Int)(he:e≠92)(j:Nat)(hj:j<=s.length)(W:World)(hW:Ext w W)=>RV e he s _ j W (H.o.ext hW) hsl hj);have bW:True:=trivial;have ja:True:=trivial;obtain⟨N1,hN1⟩:∃N,FM.number (s.drop (i+1))=N:=⟨_,rfl⟩;have JC:=jd (HNU.o (i+1) (by omega));rw[hN1]at JC;cases N1 with
 |some q=>
  obtain⟨n,k⟩:=q;have HQ:=jd (Uk hN1);have hpos:decide ((0:Int)<((i+1+k:Nat):Int))=true:=by simp;omega
  have aeV:decide ((0:Int)<(i:Int)+1+(k:Int))=true:=by simp;omega
  have JC:=jd (show∀W,Ext w W->Calls Tryz.prog 95 #[.slice A s.length ca,.int .i64 ((i:Int)+1)] W (Uh (.int .i64 n) (.int .i64 ((i+1+k:Nat):Int)) W)from JC.o);clear hN1;go_enter Tryz.func74,Tryz.ntmps74;go_wp2_with(go_at_call 95;refine(JC.o _ ((aa w).alloc _)).mono ?_;rintro e w2⟨rfl,a⟩;have f:=a.heap (aB w _);obtain⟨F,G,I,J,L,S,f1,U,V,X⟩:=y9 f;have HB:=jd f;have d:=jd (((aa w).alloc _).trans a);clear f a);refine bC (v:=.tuple #[.agg #[.int .i64 1,.int .i64 n,.int .i64 0,.slice none 0 0,.slice none 0 0],.int .i64 ((i:Int)+1+(k:Int))]) (by simp[results,Tryz.results74,go_sem,F,G,I,J,L]) rfl ?_;exact⟨by(focus(repeat(first|with_reducible exact d.o|with_reducible apply ek|with_reducible apply ah))),.inl ⟨⟨1,n,0,[],[]⟩,i+1+k,[.int .i64 1,.int .i64 n,.int .i64 0,.slice none 0 0,.slice none 0 0],by rw[<-HR.o,HQ.o],rfl,CF.mkW HB.o (by(focus(repeat(first|apply fI|exact aJ _ _)))) aS aS⟩⟩
 |none=>
  have JC:=jd (show∀W,Ext w W->Calls Tryz.prog 95 #[.slice A s.length ca,.int .i64 ((i:Int)+1)] W (Uh (.int .i64 0) (.int .i64 0) W)from JC.o);by_cases h1:s[i+1]?=some 123;rotate_left
  .have HQ:=jd (XC hN1 h1);have X4:=jd (show∀W,Ext w W->Calls Tryz.prog 96 #[.slice A s.length ca,.int .i64 ((i:Int)+1),.string {data:=#[123]}] W (lW (.bool false) W)from C.o (i+1) (by omega) ⟨#[123]⟩ (by decide) false (vU.trans (bR h1)));clear hN1 h1;go_enter Tryz.func74,Tryz.ntmps74;go_wp2_with(first|(go_at_call 95;have _t:=bW;refine(JC.o _ ((aa w).alloc _)).mono ?_;rintro e wa⟨rfl,a⟩;have Ve:=jd (a.heap (aB w _));have Me:=jd (((aa w).alloc _).trans a);clear a bW _t)|(go_at_call 96;refine(X4.o _ Me.o).mono ?_;rintro e ws⟨rfl,ns,rfl⟩;have f:=Ve.o;obtain⟨F,G,I,J,L,S,f1,U,V,X⟩:=y9 f;clear f));refine bC (v:=.tuple #[.agg #[.int .i64 0,.int .i64 0,.int .i64 0,.slice none 0 0,.slice none 0 0],.int .i64 0]) (by simp[results,Tryz.results74,go_sem,F,G,I,J,L]) rfl ?_;exact⟨by(focus(repeat(first|with_reducible exact Me.o|with_reducible apply ek|with_reducible apply ah))),.inr ⟨by rw[<-HR.o,HQ.o],rfl⟩⟩
  have hlt:=(dh.1 h1).1;have X4:=jd (show∀W,Ext w W->Calls Tryz.prog 96 #[.slice A s.length ca,.int .i64 ((i:Int)+1),.string {data:=#[123]}] W (lW (.bool true) W)from C.o (i+1) (by omega) ⟨#[123]⟩ (by decide) true (vU.trans (bJ h1)));obtain⟨N2,Zm⟩:∃N,FM.number (s.drop (i+2))=N:=⟨_,rfl⟩;have mD:=jd (HNU.o (i+2) (by omega));rw[Zm]at mD;cases N2 with
  |none=>have HQ:=jd (XD hN1 h1 Zm);have mD:=jd (show∀W,Ext w W->Calls Tryz.prog 95 #[.slice A s.length ca,.int .i64 ((i:Int)+2)] W (Uh (.int .i64 0) (.int .i64 0) W)from mD.o);clear hN1 h1 Zm;go_enter Tryz.func74,Tryz.ntmps74;go_wp2_with(first|(go_at_call 95;have _t:=bW;refine(JC.o _ ((aa w).alloc _)).mono ?_;rintro e wa⟨rfl,a⟩;have Ve:=jd (a.heap (aB w _));have Me:=jd (((aa w).alloc _).trans a);clear a bW _t)|(go_at_call 96;have _t:=ja;refine(X4.o _ Me.o).mono ?_;rintro e ws⟨rfl,ns,rfl⟩;clear ja _t)|(go_at_call 95;refine(mD.o _ (Me.o.drewN _)).mono ?_;rintro e w2⟨rfl,a⟩;have f:=a.heap Ve.o;obtain⟨F,G,I,J,L,S,f1,U,V,X⟩:=y9 f;have d:=jd ((Me.o.drewN _).trans a);clear f a));refine bC (v:=.tuple #[.agg #[.int .i64 0,.int .i64 0,.int .i64 0,.slice none 0 0,.slice none 0 0],.int .i64 0]) (by simp[results,Tryz.results74,go_sem,F,G,I,J,L]) rfl ?_;exact⟨by(focus(repeat(first|with_reducible exact d.o|with_reducible apply ek|with_reducible apply ah))),.inr ⟨by rw[<-HR.o,HQ.o],rfl⟩⟩
  |some q=>
   obtain⟨n,k⟩:=q;have hkl:=Rh Zm;rw[jU]at hkl;obtain⟨o,ho⟩:∃o,i+2+k=o:=⟨_,rfl⟩;have mD:=jd (show∀W,Ext w W->Calls Tryz.prog 95 #[.slice A s.length ca,.int .i64 ((i:Int)+2)] W (Uh (.int .i64 n) (.int .i64 (o:Int)) W)from by subst ho;exact mD.o);have M:o<=s.length:=by omega
   have ho2:2<=o:=by omega
   have ho0:((o:Int)==0)=false:=by simp;omega
   have Zn:=jd (fun(h:s[o]?=some 125)=>Ul hN1 h1 Zm (by rw[ho];exact h));have ach:=jd (fun(h:s[o]?=some 58)=>XE hN1 h1 Zm (by rw[ho];exact h));have HPO:=jd (fun(h:s[o]?≠some 125)(h2:s[o]?≠some 58)=>Um hN1 h1 Zm (by rw[ho];exact h) (by rw[ho];exact h2));rw[ho]at Zn ach;clear hN1 h1 Zm ho hkl hlt;go_enter Tryz.func74,Tryz.ntmps74;go_upto_block 0 with(first|(go_at_call 95;have _t:=bW;refine(JC.o _ ((aa w).alloc _)).mono ?_;rintro e wa⟨rfl,a⟩;have Ve:=jd (a.heap (aB w _));have Me:=jd (((aa w).alloc _).trans a);clear a bW _t)|(go_at_call 96;have _t:=ja;refine(X4.o _ Me.o).mono ?_;rintro e ws⟨rfl,ns,rfl⟩;clear ja _t)|(go_at_call 95;refine(mD.o _ (Me.o.drewN _)).mono ?_;rintro e w2⟨rfl,a⟩;have HB:=jd (a.heap Ve.o);have hbs:=ag HB.o;have d:=jd ((Me.o.drewN _).trans a);clear a));have HXS:=jd d.o.size;obtain⟨nb,hnb⟩:∃nb,nb=w2.heap.size:=⟨_,rfl⟩;have HF:=jd (show(w2.alloc (.cells #[.int .i64 1,.int .i64 n,.int .i64 0,.slice none 0 0,.slice none 0 0] 109)).heap[nb]?=some (.cells #[.int .i64 1,.int .i64 n,.int .i64 0,.slice none 0 0,.slice none 0 0] 109 (0,0))by rw[hnb];exact aB w2 _);have qD:=(aa w2).alloc (.cells #[.int .i64 1,.int .i64 n,.int .i64 0,.slice none 0 0,.slice none 0 0] 109);have HB:=jd (qD.heap HB.o);have D:=jd (show w.heap.size<=nb by rw[hnb];exact d.o.size);have nG:=jd (show w.heap.size≠nb by omega);have d:=jd (d.o.trans qD);rw[<-hnb];clear qD hnb hbs JC mD X4 Ve Me;generalize w2.alloc (.cells #[.int .i64 1,.int .i64 n,.int .i64 0,.slice none 0 0,.slice none 0 0] 109)=w4 at HF HB d⊢;have hne:nb≠w.heap.size:=fun e=>nG.o e.symm;have hne':w.heap.size≠nb:=nG.o;have HXS:=jd d.o.size;go_cut[9](fun s9 wx=>adZ R n nb w s9 wx);case rest=>
    obtain⟨K,At,lt,O,Ae,le,ce,r,f,a,hcase⟩:=hcut;obtain⟨q0,q1,q2,q3,q4,r0,r1,r2,r3,r4⟩:=y9 r;obtain⟨F,G,I,J,L,S,f1,U,V,X⟩:=y9 f;have hnl:=ag r;have hbl:=ag f;rcases hcase with⟨hR,rfl⟩|⟨t,e,k9,hR,hk9,rfl,ht,he⟩
    .have HRR:=jd hR;have IB:=jd a;clear r f a hR;go_wp2_with fail;refine bC (v:=.tuple #[.agg #[.int .i64 0,.int .i64 0,.int .i64 0,.slice none 0 0,.slice none 0 0],.int .i64 0]) (by simp[results,Tryz.results74,go_sem,F,G,I,J,L]) rfl ?_;exact⟨by(focus(repeat(first|with_reducible exact IB.o|with_reducible apply ek|with_reducible apply eY D.o|with_reducible apply ah))),.inr ⟨HRR.o,rfl⟩⟩
    .have HRR:=jd hR;have IB:=jd a;have HF9:=jd r;have HB9:=jd f;have HT9:=jd ht;have wN:=jd he;have h90:((k9:Int)==0)=false:=by simp;omega
     clear r f a hR ht he;go_wp2_with fail;refine bC (v:=.tuple #[.agg #[.int .i64 K,.int .i64 n,.int .i64 0,.slice At lt O,.slice Ae le ce],.int .i64 (k9:Int)]) (by simp[results,Tryz.results74,go_sem,F,G,I,J,L]) rfl ?_;exact⟨by(focus(repeat(first|with_reducible exact IB.o|with_reducible apply ek|with_reducible apply eY D.o|with_reducible apply ah))),.inl ⟨⟨K,n,0,t,e⟩,k9,[.int .i64 K,.int .i64 n,.int .i64 0,.slice At lt O,.slice Ae le ce],HRR.o,rfl,CF.mk2 HB9.o HF9.o (by(focus(repeat(first|with_reducible exact Two.refl _ _ _|with_reducible apply Two.set1|with_reducible apply Two.set2|with_reducible apply Two.drewN)))) HT9.o wN.o⟩⟩
   obtain⟨q0,q1,q2,q3,q4,r0,r1,r2,r3,r4⟩:=y9 HF.o;obtain⟨F,G,I,J,L,S,f1,U,V,X⟩:=y9 HB.o;have hnl:=ag HF.o;have HXS:=jd d.o.size;have hbl:=ag HB.o;by_cases ig:s[o]?=some 125
   .have HQ:=jd (Zn.o ig);have qH:=jd (C.o o M ⟨#[125]⟩ (by decide) true (vU.trans (bJ ig)));clear ig;go_wp2_with(go_at_call 96;refine(qH.o _ d.o).mono ?_;rintro e ws⟨rfl,ns,rfl⟩);refine bC (v:=.tuple #[.agg #[.int .i64 1,.int .i64 n,.int .i64 0,.slice none 0 0,.slice none 0 0],.int .i64 ((o:Int)+1)]) (by simp[results,Tryz.results74,go_sem,F,G,I,J,L]) rfl ?_;exact⟨by(focus(repeat(first|with_reducible exact d.o|with_reducible apply ek|with_reducible apply eY D.o|with_reducible apply ah))),.inl ⟨⟨1,n,0,[],[]⟩,o+1,[.int .i64 1,.int .i64 n,.int .i64 0,.slice none 0 0,.slice none 0 0],by rw[<-HR.o,HQ.o],rfl,CF.mk2 HB.o HF.o (by(focus(repeat(first|with_reducible exact Two.refl _ _ _|with_reducible apply Two.set1|with_reducible apply Two.set2|with_reducible apply Two.drewN)))) aS aS⟩⟩
   have qH:=jd (C.o o M ⟨#[125]⟩ (by decide) false (vU.trans (bR ig)));by_cases xZ:s[o]?=some 58;rotate_left
   .have HQ:=jd (HPO.o ig xZ);have hno:∀x,¬(s[o]?=some 58/\s[o+1]?=some x):=fun x h=>xZ h.1;have P:=jd (C.o o M ⟨#[58,47]⟩ (by decide) false (kv.trans (bR (hno 47))));have Di:=jd (C.o o M ⟨#[58,43]⟩ (by decide) false (kv.trans (bR (hno 43))));have yu:=jd (C.o o M ⟨#[58,63]⟩ (by decide) false (kv.trans (bR (hno 63))));have yz:=jd (C.o o M ⟨#[58,45]⟩ (by decide) false (kv.trans (bR (hno 45))));have HS6:=jd (C.o o M ⟨#[58]⟩ (by decide) false (vU.trans (bR xZ)));clear ig xZ hno;go_wp2_with(go_at_call 96;(first|(with_reducible refine(qH.o _ ?hX).mono ?_;(case hX=>(focus(repeat(first|with_reducible exact d.o|with_reducible apply ah)))))|(with_reducible refine(P.o _ ?hX).mono ?_;(case hX=>(focus(repeat(first|with_reducible exact d.o|with_reducible apply ah)))))|(with_reducible refine(Di.o _ ?hX).mono ?_;(case hX=>(focus(repeat(first|with_reducible exact d.o|with_reducible apply ah)))))|(with_reducible refine(yu.o _ ?hX).mono ?_;(case hX=>(focus(repeat(first|with_reducible exact d.o|with_reducible apply ah)))))|(with_reducible refine(yz.o _ ?hX).mono ?_;(case hX=>(focus(repeat(first|with_reducible exact d.o|with_reducible apply ah)))))|(with_reducible refine(HS6.o _ ?hX).mono ?_;(case hX=>(focus(repeat(first|with_reducible exact d.o|with_reducible apply ah))))));rintro e ws⟨rfl,ns,rfl⟩);go_meet;exact⟨1,none,0,0,none,0,0,HF.o,HB.o,by(focus(repeat(first|with_reducible exact d.o|with_reducible apply ek|with_reducible apply eY D.o|with_reducible apply ah))),.inl ⟨by rw[<-HR.o,HQ.o],rfl⟩⟩
   have HQ:=jd (ach.o xZ);have ho1:o+1<=s.length:=(dh.1 xZ).1;by_cases h47:s[o+1]?=some 47
   .have HI:=jd (show uC n s (o+1)=(FM.Kn (s.drop (o+2))).map (fun p=>(⟨1,n,p.1,[],[]⟩,o+2+p.2))from Z6 h47);have P:=jd (C.o o M ⟨#[58,47]⟩ (by decide) true (kv.trans (bJ ⟨xZ,h47⟩)));have Cs:o+2<=s.length:=(dh.1 h47).1;obtain⟨Q,hQ⟩:∃Q,FM.Kn (s.drop (o+2))=Q:=⟨_,rfl⟩;have HI:=jd (show R=Q.map (fun p=>(⟨1,n,p.1,[],[]⟩,o+2+p.2))by rw[<-HR.o,HQ.o,HI.o,hQ]);have HQ0:=jd (show FM.rW (FM.names.drop 0) (1+((0:Nat):Int)) (s.drop (o+2))=Q from hQ);have Yb:=jd NI;clear h47 xZ ig hQ;go_upto_region 14 with(go_at_call 96;(first|(with_reducible refine(qH.o _ ?hX).mono ?_;(case hX=>(focus(repeat(first|with_reducible exact d.o|with_reducible apply ah)))))|(with_reducible refine(P.o _ ?hX).mono ?_;(case hX=>(focus(repeat(first|with_reducible exact d.o|with_reducible apply ah))))));rintro e ws⟨rfl,ns,rfl⟩);go_wp2_with fail;go_loopw[11](fun x wr=>∃k:Nat,k<=5/\x=.int .i64 (1+(k:Int))/\(∃m,wr=w4.drewN m)/\FM.rW (FM.names.drop k) (1+(k:Int)) (s.drop (o+2))=Q)(fun x _=>6-(intOf x).toNat);case atStart=>exact⟨0,by omega,rfl,⟨_,rfl⟩,HQ0.o⟩
    case round=>
     obtain⟨k,hk,rfl,⟨m,rfl⟩,hT⟩:=hrel;have HT:=jd hT;clear hT;by_cases hlt:k<5
     .have hnl:=yQ k hlt;have hsg:=NJ k hlt;have ad1:=M3 k hlt;have hst:=Km (l:=s.drop (o+2)) k hlt;have HCK:=jd (Yb.o k hlt);generalize CZ.getD k ⟨#[]⟩=nm at hsg HCK ad1;generalize FM.names.getD k []=ns at hnl hsg hst;have hsz:(nm++⟨#[125]⟩).size=ns.length+1:=by rw[<-lN,hsg];simp
      have ad2:(1:Int)+(k:Int)<=5:=by omega
      have MJ:=jd hsz;obtain⟨tt,rY⟩:∃tt,nm++⟨#[125]⟩=tt:=⟨_,rfl⟩;have Xw:=jd rY;rw[rY]at hsg hsz;obtain⟨hn1,hn2⟩:=hnl;by_cases heq:(s.drop (o+2)).take (ns.length+1)=ns++[125]
      .have HSB:=jd (C.o (o+2) Cs tt (by omega) true (by rw[hsg];exact bJ (by rw[ai];exact heq)));have HRR:=jd (show Q=some (1+(k:Int),ns.length+1)by rw[<-HT.o,hst,av heq]);have afd:(tt.size:Int)=(ns.length:Int)+1:=by omega
       clear hst heq hsg rY MJ;go_wp2_with(first|(go_at_call 80;refine(HCK.o _).mono ?_;rintro e wc⟨rfl,rfl⟩)|(go_at_call 96;rw[Xw.o];refine(HSB.o _ ?hX).mono ?_;(case hX=>(focus(repeat(first|with_reducible exact d.o|with_reducible apply ah))));rintro e ws⟨rfl,ns2,rfl⟩));refine bC (v:=.tuple #[.agg #[.int .i64 1,.int .i64 n,.int .i64 (1+(k:Int)),.slice none 0 0,.slice none 0 0],.int .i64 ((o:Int)+2+((ns.length:Int)+1))]) (by simp[results,Tryz.results74,go_sem,F,G,I,J,L]) rfl ?_;exact⟨by(focus(repeat(first|with_reducible exact d.o|with_reducible apply ek|with_reducible apply eY D.o|with_reducible apply ah))),.inl ⟨⟨1,n,1+(k:Int),[],[]⟩,o+2+(ns.length+1),[.int .i64 1,.int .i64 n,.int .i64 (1+(k:Int)),.slice none 0 0,.slice none 0 0],by rw[HI.o,HRR.o];rfl,rfl,CF.mk2 HB.o HF.o (by(focus(repeat(first|with_reducible exact Two.refl _ _ _|with_reducible apply Two.set1|with_reducible apply Two.set2|with_reducible apply Two.drewN)))) aS aS⟩⟩
      .have HSB:=jd (C.o (o+2) Cs tt (by omega) false (by rw[hsg];exact bR (by rw[ai];exact heq)));have HRR:=jd (show FM.rW (FM.names.drop (k+1)) (1+((k+1:Nat):Int)) (s.drop (o+2))=Q by rw[<-HT.o,hst,ae heq]);clear hst heq hsg rY MJ;go_wp2_with(first|(go_at_call 80;refine(HCK.o _).mono ?_;rintro e wc⟨rfl,rfl⟩)|(go_at_call 96;rw[Xw.o];refine(HSB.o _ ?hX).mono ?_;(case hX=>(focus(repeat(first|with_reducible exact d.o|with_reducible apply ah))));rintro e ws⟨rfl,ns2,rfl⟩));go_roundw;case rel=>exact⟨k+1,by omega,by go_num,⟨_,rfl⟩,HRR.o⟩
       case measure=>simp[intOf];omega
     .have HRR:=jd (show Q=none by rw[<-HT.o,show k=5 by omega];rfl);have ad2:¬(1:Int)+(k:Int)<=5:=by omega
      go_wp2_with fail;refine bC (v:=.tuple #[.agg #[.int .i64 0,.int .i64 0,.int .i64 0,.slice none 0 0,.slice none 0 0],.int .i64 0]) (by simp[results,Tryz.results74,go_sem,F,G,I,J,L]) rfl ?_;exact⟨by(focus(repeat(first|with_reducible exact d.o|with_reducible apply ek|with_reducible apply eY D.o|with_reducible apply ah))),.inr ⟨by rw[HI.o,HRR.o];rfl,rfl⟩⟩
   have P:=jd (C.o o M ⟨#[58,47]⟩ (by decide) false (kv.trans (bR (fun h=>h47 h.2))));by_cases h43:s[o+1]?=some 43
   .have HI:=jd (show uC n s (o+1)=(txt 125 s (o+2)).map (fun p=>(⟨2,n,0,p.1,[]⟩,p.2))from Z7 h43);have Di:=jd (C.o o M ⟨#[58,43]⟩ (by decide) true (kv.trans (bJ ⟨xZ,h43⟩)));have Cs:o+2<=s.length:=(dh.1 h43).1;clear h43 h47 xZ ig;obtain⟨T,hT⟩:∃T,txt 125 s (o+2)=T:=⟨_,rfl⟩;have HT:=jd hT;cases T with
    |none=>clear hT;go_wp2_with(first|(go_at_call 96;(first|(with_reducible refine(qH.o _ ?hX).mono ?_;(case hX=>(focus(repeat(first|with_reducible exact d.o|with_reducible apply ah)))))|(with_reducible refine(P.o _ ?hX).mono ?_;(case hX=>(focus(repeat(first|with_reducible exact d.o|with_reducible apply ah)))))|(with_reducible refine(Di.o _ ?hX).mono ?_;(case hX=>(focus(repeat(first|with_reducible exact d.o|with_reducible apply ah))))));rintro e ws⟨rfl,ns,rfl⟩)|(go_at_call 97;refine(Vd.o 125 (by decide) (o+2) (by omega) _ ?hX).mono ?_;(case hX=>(focus(repeat(first|with_reducible exact d.o|with_reducible apply ek|with_reducible apply eY D.o|with_reducible apply ah))));rw[HT.o];rintro e Y⟨a,B⟩;have r:Y.heap[nb]?=some (.cells #[.int .i64 2,.int .i64 n,.int .i64 0,.slice none 0 0,.slice none 0 0] 109 (0,0)):=a.heap (aP (o:=0) (u:=.int .i64 2) HF.o);have f:=a.heap ((eu nG.o).trans HB.o);have Z:Ext w Y:=jv (by(focus(repeat(first|with_reducible exact d.o|with_reducible apply ek|with_reducible apply eY D.o|with_reducible apply ah)))) a;clear q0 q1 q2 q3 q4 r0 r1 r2 r3 r4 F G I J L S f1 U V X;obtain⟨q0,q1,q2,q3,q4,r0,r1,r2,r3,r4⟩:=y9 r;obtain⟨F,G,I,J,L,S,f1,U,V,X⟩:=y9 f;have IJ:=ag r;have K7:=ag f;have AQ:=jd r;have E:=jd f;have eZ:=jd Z;clear r f a Z;rcases B with⟨t',WU,At,O,z,-,-⟩|⟨-,rfl⟩;(exact absurd z (by simp))));go_meet;exact⟨2,none,0,0,none,0,0,aP (o:=3) (u:=.slice none 0 0) AQ.o,(eu nG.o).trans E.o,by(focus(repeat(first|with_reducible exact eZ.o|with_reducible apply ek|with_reducible apply eY D.o|with_reducible apply ah))),.inl ⟨by rw[<-HR.o,HQ.o,HI.o,HT.o];rfl,rfl⟩⟩
    |some p=>
     obtain⟨t,k3⟩:=p;have hk3:=DW hT (by omega);have aci:((k3:Int)==0)=false:=by simp;omega
     obtain⟨aat,acj⟩:=hk3;clear hT;go_wp2_with(first|(go_at_call 96;(first|(with_reducible refine(qH.o _ ?hX).mono ?_;(case hX=>(focus(repeat(first|with_reducible exact d.o|with_reducible apply ah)))))|(with_reducible refine(P.o _ ?hX).mono ?_;(case hX=>(focus(repeat(first|with_reducible exact d.o|with_reducible apply ah)))))|(with_reducible refine(Di.o _ ?hX).mono ?_;(case hX=>(focus(repeat(first|with_reducible exact d.o|with_reducible apply ah))))));rintro e ws⟨rfl,ns,rfl⟩)|(go_at_call 97;refine(Vd.o 125 (by decide) (o+2) (by omega) _ ?hX).mono ?_;(case hX=>(focus(repeat(first|with_reducible exact d.o|with_reducible apply ek|with_reducible apply eY D.o|with_reducible apply ah))));rw[HT.o];rintro e Y⟨a,B⟩;have r:Y.heap[nb]?=some (.cells #[.int .i64 2,.int .i64 n,.int .i64 0,.slice none 0 0,.slice none 0 0] 109 (0,0)):=a.heap (aP (o:=0) (u:=.int .i64 2) HF.o);have f:=a.heap ((eu nG.o).trans HB.o);have Z:Ext w Y:=jv (by(focus(repeat(first|with_reducible exact d.o|with_reducible apply ek|with_reducible apply eY D.o|with_reducible apply ah)))) a;clear q0 q1 q2 q3 q4 r0 r1 r2 r3 r4 F G I J L S f1 U V X;obtain⟨q0,q1,q2,q3,q4,r0,r1,r2,r3,r4⟩:=y9 r;obtain⟨F,G,I,J,L,S,f1,U,V,X⟩:=y9 f;have IJ:=ag r;have K7:=ag f;have AQ:=jd r;have E:=jd f;have eZ:=jd Z;clear r f a Z;rcases B with⟨t',WU,At,O,z,rfl,hv⟩|⟨z,-⟩;rotate_left;(exact absurd z (by simp));injection z with z;injection z with hq1 hq2;subst hq1 hq2));go_meet;have hkt:=aV.RY (o:=3) (u:=.slice At t.length O) AQ.o;have hv3:=hv.EG hkt;exact⟨2,At,t.length,O,none,0,0,aP (o:=3) (u:=.slice At t.length O) AQ.o,(eu nG.o).trans E.o,by(focus(repeat(first|with_reducible exact eZ.o|with_reducible apply ek|with_reducible apply eY D.o|with_reducible apply ah))),.inr ⟨t,[],k3,by rw[<-HR.o,HQ.o,HI.o,HT.o];rfl,by omega,rfl,(hv3.weaken (by simpa using HXS.o)),aS⟩⟩
   have Di:=jd (C.o o M ⟨#[58,43]⟩ (by decide) false (kv.trans (bR (fun h=>h43 h.2))));by_cases h63:s[o+1]?=some 63
   .have HI:=jd (show uC n s (o+1)=(txt 58 s (o+2)).bind (fun p=>(txt 125 s p.2).map fun q=>(⟨4,n,0,p.1,q.1⟩,q.2))from Z8 h63);have yu:=jd (C.o o M ⟨#[58,63]⟩ (by decide) true (kv.trans (bJ ⟨xZ,h63⟩)));have Cs:o+2<=s.length:=(dh.1 h63).1;clear h63 h43 h47 xZ ig;obtain⟨T,hT⟩:∃T,txt 58 s (o+2)=T:=⟨_,rfl⟩;have HT:=jd hT;cases T with
    |none=>clear hT;go_wp2_with(first|(go_at_call 96;(first|(with_reducible refine(qH.o _ ?hX).mono ?_;(case hX=>(focus(repeat(first|with_reducible exact d.o|with_reducible apply ah)))))|(with_reducible refine(P.o _ ?hX).mono ?_;(case hX=>(focus(repeat(first|with_reducible exact d.o|with_reducible apply ah)))))|(with_reducible refine(Di.o _ ?hX).mono ?_;(case hX=>(focus(repeat(first|with_reducible exact d.o|with_reducible apply ah)))))|(with_reducible refine(yu.o _ ?hX).mono ?_;(case hX=>(focus(repeat(first|with_reducible exact d.o|with_reducible apply ah))))));rintro e ws⟨rfl,ns,rfl⟩)|(go_at_call 97;refine(Vd.o 58 (by decide) (o+2) (by omega) _ ?hX).mono ?_;(case hX=>(focus(repeat(first|with_reducible exact d.o|with_reducible apply ek|with_reducible apply eY D.o|with_reducible apply ah))));rw[HT.o];rintro e Y⟨a,B⟩;have r:Y.heap[nb]?=some (.cells #[.int .i64 4,.int .i64 n,.int .i64 0,.slice none 0 0,.slice none 0 0] 109 (0,0)):=a.heap (aP (o:=0) (u:=.int .i64 4) HF.o);have f:=a.heap ((eu nG.o).trans HB.o);have Z:Ext w Y:=jv (by(focus(repeat(first|with_reducible exact d.o|with_reducible apply ek|with_reducible apply eY D.o|with_reducible apply ah)))) a;clear q0 q1 q2 q3 q4 r0 r1 r2 r3 r4 F G I J L S f1 U V X;obtain⟨q0,q1,q2,q3,q4,r0,r1,r2,r3,r4⟩:=y9 r;obtain⟨F,G,I,J,L,S,f1,U,V,X⟩:=y9 f;have IJ:=ag r;have K7:=ag f;have AQ:=jd r;have E:=jd f;have eZ:=jd Z;clear r f a Z;rcases B with⟨t',WU,At,O,z,-,-⟩|⟨-,rfl⟩;(exact absurd z (by simp))));go_meet;exact⟨4,none,0,0,none,0,0,aP (o:=3) (u:=.slice none 0 0) AQ.o,(eu nG.o).trans E.o,by(focus(repeat(first|with_reducible exact eZ.o|with_reducible apply ek|with_reducible apply eY D.o|with_reducible apply ah))),.inl ⟨by rw[<-HR.o,HQ.o,HI.o,HT.o];rfl,rfl⟩⟩
    |some p=>
     obtain⟨t,k3⟩:=p;have Hl:=jd (DW hT (by omega));have aat:=Hl.o.1;have hpos:decide ((0:Int)<(k3:Int))=true:=by simp;omega
     clear hT;obtain⟨T2,hT2⟩:∃T,txt 125 s k3=T:=⟨_,rfl⟩;have HT2:=jd hT2;have wW:True:=trivial;cases T2 with
     |none=>clear hT2;go_wp2_with(first|(go_at_call 96;(first|(with_reducible refine(qH.o _ ?hX).mono ?_;(case hX=>(focus(repeat(first|with_reducible exact d.o|with_reducible apply ah)))))|(with_reducible refine(P.o _ ?hX).mono ?_;(case hX=>(focus(repeat(first|with_reducible exact d.o|with_reducible apply ah)))))|(with_reducible refine(Di.o _ ?hX).mono ?_;(case hX=>(focus(repeat(first|with_reducible exact d.o|with_reducible apply ah)))))|(with_reducible refine(yu.o _ ?hX).mono ?_;(case hX=>(focus(repeat(first|with_reducible exact d.o|with_reducible apply ah))))));rintro e ws⟨rfl,ns,rfl⟩)|(go_at_call 97;have _t:=wW;refine(Vd.o 58 (by decide) (o+2) (by omega) _ ?hX).mono ?_;(case hX=>(focus(repeat(first|with_reducible exact d.o|with_reducible apply ek|with_reducible apply eY D.o|with_reducible apply ah))));rw[HT.o];rintro e Y⟨a,B⟩;have r:Y.heap[nb]?=some (.cells #[.int .i64 4,.int .i64 n,.int .i64 0,.slice none 0 0,.slice none 0 0] 109 (0,0)):=a.heap (aP (o:=0) (u:=.int .i64 4) HF.o);have f:=a.heap ((eu nG.o).trans HB.o);have Z:Ext w Y:=jv (by(focus(repeat(first|with_reducible exact d.o|with_reducible apply ek|with_reducible apply eY D.o|with_reducible apply ah)))) a;clear q0 q1 q2 q3 q4 r0 r1 r2 r3 r4 F G I J L S f1 U V X;obtain⟨q0,q1,q2,q3,q4,r0,r1,r2,r3,r4⟩:=y9 r;obtain⟨F,G,I,J,L,S,f1,U,V,X⟩:=y9 f;have IJ:=ag r;have K7:=ag f;have AQ:=jd r;have E:=jd f;have eZ:=jd Z;clear r f a Z;rcases B with⟨t',WU,At,O,z,rfl,hv⟩|⟨z,-⟩;rotate_left;(exact absurd z (by simp));injection z with z;injection z with hq1 hq2;subst hq1 hq2;have lF:=jd hv;have ack:=jd eZ.o.size;clear hv;clear wW _t)|(go_at_call 97;refine(Vd.o 125 (by decide) k3 Hl.o.2 _ ?hX).mono ?_;(case hX=>(focus(repeat(first|with_reducible exact eZ.o|with_reducible apply ek|with_reducible apply eY D.o|with_reducible apply ah))));rw[HT2.o];rintro e w5⟨a,B⟩;have r:w5.heap[nb]?=some (.cells #[.int .i64 4,.int .i64 n,.int .i64 0,.slice At t.length O,.slice none 0 0] 109 (0,0)):=a.heap (aP (o:=3) (u:=.slice At t.length O) AQ.o);have f:=a.heap ((eu nG.o).trans E.o);have hv5:=lF.o.EG ((aV.RY AQ.o).trans (au a));have HV5:=jd hv5;have hX4:Ext w w5:=jv (by(focus(repeat(first|with_reducible exact eZ.o|with_reducible apply ek|with_reducible apply eY D.o|with_reducible apply ah)))) a;clear q0 q1 q2 q3 q4 r0 r1 r2 r3 r4 F G I J L S f1 U V X;obtain⟨q0,q1,q2,q3,q4,r0,r1,r2,r3,r4⟩:=y9 r;obtain⟨F,G,I,J,L,S,f1,U,V,X⟩:=y9 f;have ad3:=ag r;have ad4:=ag f;have Zo:=jd r;have BN:=jd f;have jY:=jd hX4;clear r f a hX4 hv5;rcases B with⟨t',WU,At,O,z,-,-⟩|⟨-,rfl⟩;(exact absurd z (by simp))));go_meet;exact⟨4,At,t.length,O,none,0,0,aP (o:=4) (u:=.slice none 0 0) Zo.o,(eu nG.o).trans BN.o,by(focus(repeat(first|with_reducible exact jY.o|with_reducible apply ek|with_reducible apply eY D.o|with_reducible apply ah))),.inl ⟨by rw[<-HR.o,HQ.o,HI.o,HT.o,Option.bind_some,HT2.o];rfl,rfl⟩⟩
     |some p=>
      obtain⟨t2,k5⟩:=p;have hk5:=DW hT2 Hl.o.2;have afe:((k5:Int)==0)=false:=by simp;omega
      obtain⟨aff,afg⟩:=hk5;clear hT2;go_wp2_with(first|(go_at_call 96;(first|(with_reducible refine(qH.o _ ?hX).mono ?_;(case hX=>(focus(repeat(first|with_reducible exact d.o|with_reducible apply ah)))))|(with_reducible refine(P.o _ ?hX).mono ?_;(case hX=>(focus(repeat(first|with_reducible exact d.o|with_reducible apply ah)))))|(with_reducible refine(Di.o _ ?hX).mono ?_;(case hX=>(focus(repeat(first|with_reducible exact d.o|with_reducible apply ah)))))|(with_reducible refine(yu.o _ ?hX).mono ?_;(case hX=>(focus(repeat(first|with_reducible exact d.o|with_reducible apply ah))))));rintro e ws⟨rfl,ns,rfl⟩)|(go_at_call 97;have _t:=wW;refine(Vd.o 58 (by decide) (o+2) (by omega) _ ?hX).mono ?_;(case hX=>(focus(repeat(first|with_reducible exact d.o|with_reducible apply ek|with_reducible apply eY D.o|with_reducible apply ah))));rw[HT.o];rintro e Y⟨a,B⟩;have r:Y.heap[nb]?=some (.cells #[.int .i64 4,.int .i64 n,.int .i64 0,.slice none 0 0,.slice none 0 0] 109 (0,0)):=a.heap (aP (o:=0) (u:=.int .i64 4) HF.o);have f:=a.heap ((eu nG.o).trans HB.o);have Z:Ext w Y:=jv (by(focus(repeat(first|with_reducible exact d.o|with_reducible apply ek|with_reducible apply eY D.o|with_reducible apply ah)))) a;clear q0 q1 q2 q3 q4 r0 r1 r2 r3 r4 F G I J L S f1 U V X;obtain⟨q0,q1,q2,q3,q4,r0,r1,r2,r3,r4⟩:=y9 r;obtain⟨F,G,I,J,L,S,f1,U,V,X⟩:=y9 f;have IJ:=ag r;have K7:=ag f;have AQ:=jd r;have E:=jd f;have eZ:=jd Z;clear r f a Z;rcases B with⟨t',WU,At,O,z,rfl,hv⟩|⟨z,-⟩;rotate_left;(exact absurd z (by simp));injection z with z;injection z with hq1 hq2;subst hq1 hq2;have lF:=jd hv;have ack:=jd eZ.o.size;clear hv;clear wW _t)|(go_at_call 97;refine(Vd.o 125 (by decide) k3 Hl.o.2 _ ?hX).mono ?_;(case hX=>(focus(repeat(first|with_reducible exact eZ.o|with_reducible apply ek|with_reducible apply eY D.o|with_reducible apply ah))));rw[HT2.o];rintro e w5⟨a,B⟩;have r:w5.heap[nb]?=some (.cells #[.int .i64 4,.int .i64 n,.int .i64 0,.slice At t.length O,.slice none 0 0] 109 (0,0)):=a.heap (aP (o:=3) (u:=.slice At t.length O) AQ.o);have f:=a.heap ((eu nG.o).trans E.o);have hv5:=lF.o.EG ((aV.RY AQ.o).trans (au a));have HV5:=jd hv5;have hX4:Ext w w5:=jv (by(focus(repeat(first|with_reducible exact eZ.o|with_reducible apply ek|with_reducible apply eY D.o|with_reducible apply ah)))) a;clear q0 q1 q2 q3 q4 r0 r1 r2 r3 r4 F G I J L S f1 U V X;obtain⟨q0,q1,q2,q3,q4,r0,r1,r2,r3,r4⟩:=y9 r;obtain⟨F,G,I,J,L,S,f1,U,V,X⟩:=y9 f;have ad3:=ag r;have ad4:=ag f;have Zo:=jd r;have BN:=jd f;have jY:=jd hX4;clear r f a hX4 hv5;rcases B with⟨t',WU,At2,ct2,z,rfl,hv2⟩|⟨z,-⟩;rotate_left;(exact absurd z (by simp));injection z with z;injection z with hq1 hq2;subst hq1 hq2));go_meet;have hkt:=aV.RY (o:=4) (u:=.slice At2 t2.length ct2) Zo.o;have hv5:=HV5.o.EG hkt;have hv6:=hv2.EG hkt;exact⟨4,At,t.length,O,At2,t2.length,ct2,aP (o:=4) (u:=.slice At2 t2.length ct2) Zo.o,(eu nG.o).trans BN.o,by(focus(repeat(first|with_reducible exact jY.o|with_reducible apply ek|with_reducible apply eY D.o|with_reducible apply ah))),.inr ⟨t,t2,k5,by rw[<-HR.o,HQ.o,HI.o,HT.o,Option.bind_some,HT2.o];rfl,by omega,rfl,hv5.weaken (by simpa using HXS.o),hv6.weaken (by simpa using ack.o)⟩⟩
   have yu:=jd (C.o o M ⟨#[58,63]⟩ (by decide) false (kv.trans (bR (fun h=>h63 h.2))));by_cases h45:s[o+1]?=some 45
   .have HI:=jd (show uC n s (o+1)=(txt 125 s (o+2)).map (fun p=>(⟨3,n,0,[],p.1⟩,p.2))from Z9 h45);have yz:=jd (C.o o M ⟨#[58,45]⟩ (by decide) true (kv.trans (bJ ⟨xZ,h45⟩)));have Cs:o+2<=s.length:=(dh.1 h45).1;clear h45 h63 h43 h47 xZ ig;obtain⟨T,hT⟩:∃T,txt 125 s (o+2)=T:=⟨_,rfl⟩;have HT:=jd hT;cases T with
    |none=>clear hT;go_wp2_with(first|(go_at_call 96;(first|(with_reducible refine(qH.o _ ?hX).mono ?_;(case hX=>(focus(repeat(first|with_reducible exact d.o|with_reducible apply ah)))))|(with_reducible refine(P.o _ ?hX).mono ?_;(case hX=>(focus(repeat(first|with_reducible exact d.o|with_reducible apply ah)))))|(with_reducible refine(Di.o _ ?hX).mono ?_;(case hX=>(focus(repeat(first|with_reducible exact d.o|with_reducible apply ah)))))|(with_reducible refine(yu.o _ ?hX).mono ?_;(case hX=>(focus(repeat(first|with_reducible exact d.o|with_reducible apply ah)))))|(with_reducible refine(yz.o _ ?hX).mono ?_;(case hX=>(focus(repeat(first|with_reducible exact d.o|with_reducible apply ah))))));rintro e ws⟨rfl,ns,rfl⟩)|(go_at_call 97;refine(Vd.o 125 (by decide) (o+2) (by omega) _ ?hX).mono ?_;(case hX=>(focus(repeat(first|with_reducible exact d.o|with_reducible apply ek|with_reducible apply eY D.o|with_reducible apply ah))));rw[HT.o];rintro e Y⟨a,B⟩;have r:Y.heap[nb]?=some (.cells #[.int .i64 3,.int .i64 n,.int .i64 0,.slice none 0 0,.slice none 0 0] 109 (0,0)):=a.heap (aP (o:=0) (u:=.int .i64 3) HF.o);have f:=a.heap ((eu nG.o).trans HB.o);have Z:Ext w Y:=jv (by(focus(repeat(first|with_reducible exact d.o|with_reducible apply ek|with_reducible apply eY D.o|with_reducible apply ah)))) a;clear q0 q1 q2 q3 q4 r0 r1 r2 r3 r4 F G I J L S f1 U V X;obtain⟨q0,q1,q2,q3,q4,r0,r1,r2,r3,r4⟩:=y9 r;obtain⟨F,G,I,J,L,S,f1,U,V,X⟩:=y9 f;have IJ:=ag r;have K7:=ag f;have AQ:=jd r;have E:=jd f;have eZ:=jd Z;clear r f a Z;rcases B with⟨t',WU,At,O,z,-,-⟩|⟨-,rfl⟩;(exact absurd z (by simp))));go_meet;exact⟨3,none,0,0,none,0,0,aP (o:=4) (u:=.slice none 0 0) AQ.o,(eu nG.o).trans E.o,by(focus(repeat(first|with_reducible exact eZ.o|with_reducible apply ek|with_reducible apply eY D.o|with_reducible apply ah))),.inl ⟨by rw[<-HR.o,HQ.o,HI.o,HT.o];rfl,rfl⟩⟩
    |some p=>
     obtain⟨t,k3⟩:=p;have hk3:=DW hT (by omega);have aci:((k3:Int)==0)=false:=by simp;omega
     obtain⟨aat,acj⟩:=hk3;clear hT;go_wp2_with(first|(go_at_call 96;(first|(with_reducible refine(qH.o _ ?hX).mono ?_;(case hX=>(focus(repeat(first|with_reducible exact d.o|with_reducible apply ah)))))|(with_reducible refine(P.o _ ?hX).mono ?_;(case hX=>(focus(repeat(first|with_reducible exact d.o|with_reducible apply ah)))))|(with_reducible refine(Di.o _ ?hX).mono ?_;(case hX=>(focus(repeat(first|with_reducible exact d.o|with_reducible apply ah)))))|(with_reducible refine(yu.o _ ?hX).mono ?_;(case hX=>(focus(repeat(first|with_reducible exact d.o|with_reducible apply ah)))))|(with_reducible refine(yz.o _ ?hX).mono ?_;(case hX=>(focus(repeat(first|with_reducible exact d.o|with_reducible apply ah))))));rintro e ws⟨rfl,ns,rfl⟩)|(go_at_call 97;refine(Vd.o 125 (by decide) (o+2) (by omega) _ ?hX).mono ?_;(case hX=>(focus(repeat(first|with_reducible exact d.o|with_reducible apply ek|with_reducible apply eY D.o|with_reducible apply ah))));rw[HT.o];rintro e Y⟨a,B⟩;have r:Y.heap[nb]?=some (.cells #[.int .i64 3,.int .i64 n,.int .i64 0,.slice none 0 0,.slice none 0 0] 109 (0,0)):=a.heap (aP (o:=0) (u:=.int .i64 3) HF.o);have f:=a.heap ((eu nG.o).trans HB.o);have Z:Ext w Y:=jv (by(focus(repeat(first|with_reducible exact d.o|with_reducible apply ek|with_reducible apply eY D.o|with_reducible apply ah)))) a;clear q0 q1 q2 q3 q4 r0 r1 r2 r3 r4 F G I J L S f1 U V X;obtain⟨q0,q1,q2,q3,q4,r0,r1,r2,r3,r4⟩:=y9 r;obtain⟨F,G,I,J,L,S,f1,U,V,X⟩:=y9 f;have IJ:=ag r;have K7:=ag f;have AQ:=jd r;have E:=jd f;have eZ:=jd Z;clear r f a Z;rcases B with⟨t',WU,At,O,z,rfl,hv⟩|⟨z,-⟩;rotate_left;(exact absurd z (by simp));injection z with z;injection z with hq1 hq2;subst hq1 hq2));go_meet;have hkt:=aV.RY (o:=4) (u:=.slice At t.length O) AQ.o;have hv3:=hv.EG hkt;exact⟨3,none,0,0,At,t.length,O,aP (o:=4) (u:=.slice At t.length O) AQ.o,(eu nG.o).trans E.o,by(focus(repeat(first|with_reducible exact eZ.o|with_reducible apply ek|with_reducible apply eY D.o|with_reducible apply ah))),.inr ⟨[],t,k3,by rw[<-HR.o,HQ.o,HI.o,HT.o];rfl,by omega,rfl,aS,(hv3.weaken (by simpa using HXS.o))⟩⟩
   have yz:=jd (C.o o M ⟨#[58,45]⟩ (by decide) false (kv.trans (bR (fun h=>h45 h.2))));have HI:=jd (show uC n s (o+1)=(txt 125 s (o+1)).map (fun p=>(⟨3,n,0,[],p.1⟩,p.2))from aaa h47 h43 h63 h45);have HS6:=jd (C.o o M ⟨#[58]⟩ (by decide) true (vU.trans (bJ xZ)));clear h45 h63 h43 h47 xZ ig;obtain⟨T,hT⟩:∃T,txt 125 s (o+1)=T:=⟨_,rfl⟩;have HT:=jd hT;cases T with
   |none=>clear hT;go_wp2_with(first|(go_at_call 96;(first|(with_reducible refine(qH.o _ ?hX).mono ?_;(case hX=>(focus(repeat(first|with_reducible exact d.o|with_reducible apply ah)))))|(with_reducible refine(P.o _ ?hX).mono ?_;(case hX=>(focus(repeat(first|with_reducible exact d.o|with_reducible apply ah)))))|(with_reducible refine(Di.o _ ?hX).mono ?_;(case hX=>(focus(repeat(first|with_reducible exact d.o|with_reducible apply ah)))))|(with_reducible refine(yu.o _ ?hX).mono ?_;(case hX=>(focus(repeat(first|with_reducible exact d.o|with_reducible apply ah)))))|(with_reducible refine(yz.o _ ?hX).mono ?_;(case hX=>(focus(repeat(first|with_reducible exact d.o|with_reducible apply ah)))))|(with_reducible refine(HS6.o _ ?hX).mono ?_;(case hX=>(focus(repeat(first|with_reducible exact d.o|with_reducible apply ah))))));rintro e ws⟨rfl,ns,rfl⟩)|(go_at_call 97;refine(Vd.o 125 (by decide) (o+1) (by omega) _ ?hX).mono ?_;(case hX=>(focus(repeat(first|with_reducible exact d.o|with_reducible apply ek|with_reducible apply eY D.o|with_reducible apply ah))));rw[HT.o];rintro e Y⟨a,B⟩;have r:Y.heap[nb]?=some (.cells #[.int .i64 3,.int .i64 n,.int .i64 0,.slice none 0 0,.slice none 0 0] 109 (0,0)):=a.heap (aP (o:=0) (u:=.int .i64 3) HF.o);have f:=a.heap ((eu nG.o).trans HB.o);have Z:Ext w Y:=jv (by(focus(repeat(first|with_reducible exact d.o|with_reducible apply ek|with_reducible apply eY D.o|with_reducible apply ah)))) a;clear q0 q1 q2 q3 q4 r0 r1 r2 r3 r4 F G I J L S f1 U V X;obtain⟨q0,q1,q2,q3,q4,r0,r1,r2,r3,r4⟩:=y9 r;obtain⟨F,G,I,J,L,S,f1,U,V,X⟩:=y9 f;have IJ:=ag r;have K7:=ag f;have AQ:=jd r;have E:=jd f;have eZ:=jd Z;clear r f a Z;rcases B with⟨t',WU,At,O,z,-,-⟩|⟨-,rfl⟩;(exact absurd z (by simp))));go_meet;exact⟨3,none,0,0,none,0,0,aP (o:=4) (u:=.slice none 0 0) AQ.o,(eu nG.o).trans E.o,by(focus(repeat(first|with_reducible exact eZ.o|with_reducible apply ek|with_reducible apply eY D.o|with_reducible apply ah))),.inl ⟨by rw[<-HR.o,HQ.o,HI.o,HT.o];rfl,rfl⟩⟩
   |some p=>
    obtain⟨t,k3⟩:=p;have hk3:=DW hT (by omega);have aci:((k3:Int)==0)=false:=by simp;omega
    obtain⟨aat,acj⟩:=hk3;clear hT;go_wp2_with(first|(go_at_call 96;(first|(with_reducible refine(qH.o _ ?hX).mono ?_;(case hX=>(focus(repeat(first|with_reducible exact d.o|with_reducible apply ah)))))|(with_reducible refine(P.o _ ?hX).mono ?_;(case hX=>(focus(repeat(first|with_reducible exact d.o|with_reducible apply ah)))))|(with_reducible refine(Di.o _ ?hX).mono ?_;(case hX=>(focus(repeat(first|with_reducible exact d.o|with_reducible apply ah)))))|(with_reducible refine(yu.o _ ?hX).mono ?_;(case hX=>(focus(repeat(first|with_reducible exact d.o|with_reducible apply ah)))))|(with_reducible refine(yz.o _ ?hX).mono ?_;(case hX=>(focus(repeat(first|with_reducible exact d.o|with_reducible apply ah)))))|(with_reducible refine(HS6.o _ ?hX).mono ?_;(case hX=>(focus(repeat(first|with_reducible exact d.o|with_reducible apply ah))))));rintro e ws⟨rfl,ns,rfl⟩)|(go_at_call 97;refine(Vd.o 125 (by decide) (o+1) (by omega) _ ?hX).mono ?_;(case hX=>(focus(repeat(first|with_reducible exact d.o|with_reducible apply ek|with_reducible apply eY D.o|with_reducible apply ah))));rw[HT.o];rintro e Y⟨a,B⟩;have r:Y.heap[nb]?=some (.cells #[.int .i64 3,.int .i64 n,.int .i64 0,.slice none 0 0,.slice none 0 0] 109 (0,0)):=a.heap (aP (o:=0) (u:=.int .i64 3) HF.o);have f:=a.heap ((eu nG.o).trans HB.o);have Z:Ext w Y:=jv (by(focus(repeat(first|with_reducible exact d.o|with_reducible apply ek|with_reducible apply eY D.o|with_reducible apply ah)))) a;clear q0 q1 q2 q3 q4 r0 r1 r2 r3 r4 F G I J L S f1 U V X;obtain⟨q0,q1,q2,q3,q4,r0,r1,r2,r3,r4⟩:=y9 r;obtain⟨F,G,I,J,L,S,f1,U,V,X⟩:=y9 f;have IJ:=ag r;have K7:=ag f;have AQ:=jd r;have E:=jd f;have eZ:=jd Z;clear r f a Z;rcases B with⟨t',WU,At,O,z,rfl,hv⟩|⟨z,-⟩;rotate_left;(exact absurd z (by simp));injection z with z;injection z with hq1 hq2;subst hq1 hq2));go_meet;have hkt:=aV.RY (o:=4) (u:=.slice At t.length O) AQ.o;have hv3:=hv.EG hkt;exact⟨3,none,0,0,At,t.length,O,aP (o:=4) (u:=.slice At t.length O) AQ.o,(eu nG.o).trans E.o,by(focus(repeat(first|with_reducible exact eZ.o|with_reducible apply ek|with_reducible apply eY D.o|with_reducible apply ah))),.inr ⟨[],t,k3,by rw[<-HR.o,HQ.o,HI.o,HT.o];rfl,by omega,rfl,aS,(hv3.weaken (by simpa using HXS.o))⟩⟩
def Raw(_:World)(cs x:List Value):Prop:=cs=x/\x.length=5
theorem AR(T:List TypeId):fO T Raw:=fun _ _ _ _ _ h=>h
def Fits(B T:Nat)(w:World)(css:List (List Value))(fs:List FM.Form):Prop:=css.length=fs.length/\∀(k:Nat)(cs:List Value)(f:FM.Form),css[k]?=some cs->fs[k]?=some f->M6 B T w cs f
theorem Fits.eU{B T:Nat}{w:World}:Fits B T w [] []:=⟨rfl,by intro k a f h;simp at h⟩
theorem Fits.imp{B T d e:Nat}{w w':World}{a:List (List Value)}{fs:List FM.Form}(h:Fits B T w a fs)(hi:∀cs f,M6 B T w cs f->M6 d e w' cs f):Fits d e w' a fs:=⟨h.1,fun k cs f i j=>hi _ _ (h.2 k cs f i j)⟩
theorem Fits.snoc{B T:Nat}{w:World}{a:List (List Value)}{fs:List FM.Form}{cs:List Value}{f:FM.Form}(h:Fits B T w a fs)(p:M6 B T w cs f):Fits B T w (a++[cs]) (fs++[f]):=by
 refine⟨by rw[ai,ai,h.1];rfl,fun k c g d i=>?_⟩;rcases fC k a.length with j|j
 .rw[lK j]at d;rw[lK (by rw[<-h.1];exact j)]at i;exact h.2 k c g d i
 .rw[nN j]at d;rw[nN (by rw[<-h.1];exact j)]at i;rw[<-h.1]at i;have m:k-a.length=0:=by
   rcases xm (k-a.length)with e|e
   .exact e
   .rw[gD (by simp;omega)]at d;cases d
  rw[m]at d i;simp at d i;subst d i;exact p
theorem ay.parts{B T base:Nat}{w:World}{v:Value}{a:List (List Value)}{fs:List FM.Form}(h:ay 109 5 Raw base w v a)(i:Fits B T w a fs):ay 109 5 (M6 B T) base w v fs:=by
 obtain⟨flat,d,m⟩:=h;refine⟨flat,by rw[<-i.1];exact d,fun k f j=>?_⟩;have e:k<a.length:=by rw[i.1];exact(dh.1 j).1
 obtain⟨s,⟨rfl,t⟩,p,r⟩:=m k _ (aU e);exact⟨_,i.2 k _ f (aU e) j,p,r⟩
theorem ay.I8{base:Nat}{w:World}{A:Option Addr}{n c:Nat}{a:List (List Value)}{cs:List Value}(h:ay 109 5 Raw base w (.slice A n c) (a++[cs])):∃g f,A=some ⟨g,0,none⟩/\base<=g/\n=a.length+1/\n<=c/\w.heap[g]?=some (.cells f 109 (0,0))/\(∀i u,cs[i]?=some u->f[a.length*5+i]?=some u)/\∀(w':World)(u:Value)(i:Nat),i<5->w'.heap[g]?=some (.cells (f.setIfInBounds (a.length*5+i) u) 109 (0,0))->ay 109 5 Raw base w' (.slice A n c) (a++[cs.set i u]):=by
 obtain⟨flat,v,H⟩:=h;obtain⟨I,T⟩:=v;have d:(a++[cs]).length=a.length+1:=by simp
 rcases T with⟨Q,U⟩|⟨g,V,f,Q,R,X,s,J,K,t⟩
 .rw[d]at U;omega
 .injection Q with Y Z e3;subst Y Z e3;rw[d]at I s t;have z:∀i u,cs[i]?=some u->flat[a.length*5+i]?=some u:=by intro i u L;obtain⟨M,⟨E,B⟩,_,N⟩:=H a.length cs (by simp);subst E;exact N i u L
  have C:cs.length=5:=by obtain⟨M,⟨E,B⟩,_,_⟩:=H a.length cs (by simp);exact B
  refine⟨g,f,rfl,R,d,by rw[d];exact s,X,fun i u L=>?_,fun w' u i hi O=>?_⟩
  .have F:=z i u L;rw[<-t,pY]at F;split at F
   .simpa using F
   .cases F
  .have m:(a++[cs.set i u]).length=a.length+1:=by simp
   rw[d];refine⟨flat.set (a.length*5+i) u,⟨by rw[gK,m];exact I,.inr ⟨g,c,_,by rw[m],R,O,by rw[m];exact s,J,by rw[Array.size_setIfInBounds];exact K,?_⟩⟩,fun k x r=>?_⟩
   .rw[m,Array.toList_setIfInBounds,List.take_set,t]
   .rcases fC k a.length with G|G
    .rw[lK G]at r;obtain⟨M,E,B,N⟩:=H k x (by rw[lK G];exact r);refine⟨M,E,B,fun j y p=>?_⟩;have S:j<5:=by rw[<-B];exact(dh.1 p).1
     rw[oP (by omega)];exact N j y p
    .rw[nN G]at r;have P:k-a.length=0:=by
      rcases xm (k-a.length)with e|e
      .exact e
      .rw[gD (by simp;omega)]at r;cases r
     obtain rfl:k=a.length:=by omega
     rw[P]at r;simp at r;subst r;refine⟨_,⟨rfl,by simpa using C⟩,by simpa using C,fun j y p=>?_⟩;rcases fC j 5 with S|S
     .by_cases D:i=j
      .subst D;rw[uH (by omega)]at p;rw[uH (by rw[I];omega)];exact p
      .rw[oP D]at p;rw[oP (by omega)];exact z j y p
     .rw[gD (by rw[gK];omega)]at p;cases p
def Tq(vt:Value):List Value:=[.int .i64 0,.int .i64 0,.int .i64 0,vt,.slice none 0 0]
def tl(tx:List Int)(vt:Value):List (List Value):=if tx=[]then[]else[Tq vt]
structure wZ(w:World)(T:Nat)(vl vt:Value)(cf:List (List Value))(fs:List FM.Form)(tx:List Int)(wr:World):Prop where
 ext:Ext w wr
 lo:w.heap.size<=T
 top:T<=wr.heap.size
 fit:Fits w.heap.size T wr cf fs
 own:ay 109 5 Raw w.heap.size wr vl (cf++tl tx vt)
 txt:ay 21 1 Cc T wr vt tx
 nt:∀f,fs.getLast?=some f->f.kind≠0
section
variable{w wr w':World}{T:Nat}{vl vt II Mc v':Value}{cf:List (List Value)}{fs:List FM.Form}{tx:List Int}
theorem wZ.start(w:World):wZ w w.heap.size (.slice none 0 0) (.slice none 0 0) [] [] [] w:=⟨aa w,az _,az _,Fits.eU,dO,dO,by intro f h;simp at h⟩
theorem wZ.aj(h:wZ w T vl vt cf fs tx wr)(a:Ext wr w'):wZ w T vl vt cf fs tx w':=⟨h.ext.trans a,h.lo,aG h.top a.size,h.fit.imp (fun _ _ d=>d.keep (fun _ _ _ e=>a.heap e)),h.own.pV (fun _ _ d=>d) (fun _ _ _ e=>a.heap e),h.txt.pV (fun _ _ d=>d) (fun _ _ _ e=>a.heap e),h.nt⟩
theorem aau(cf:List (List Value))(fs:List FM.Form)(tx:List Int)(vt:Value)(h:cf.length=fs.length):(cf++tl tx vt).length=(FM.nX fs tx).length:=by unfold tl FM.nX;split<;>simp[h]
theorem wZ.fits(h:wZ w T vl vt cf fs tx wr):Fits w.heap.size wr.heap.size wr (cf++tl tx vt) (FM.nX fs tx):=by
 have a:Fits w.heap.size wr.heap.size wr cf fs:=h.fit.imp (fun _ _ d=>d.mono h.top);unfold tl FM.nX;split
 .rw[iU];exact a
 .exact a.snoc ⟨vt,_,rfl,⟨h.txt.sl.weaken h.lo,h.txt.sl.blo⟩,aS,M4.eU⟩
theorem wZ.done(h:wZ w T vl vt cf fs tx wr):aT 109 5 (CF w.heap.size) w.heap.size wr vl (FM.nX fs tx):=((h.own.parts h.fits).sl).imp (fun _ _ a=>a.cf)
theorem wZ.part{cs:List Value}{f:FM.Form}(h:wZ w T vl vt cf fs tx wr)(p:M6 w.heap.size wr.heap.size wr cs f)(j:f.kind≠0)(r:ay 109 5 Raw w.heap.size w' v' ((cf++tl tx vt)++[cs]))(i:wr.grownBy w' vl.ownBlock):wZ w w'.heap.size v' (.slice none 0 0) ((cf++tl tx vt)++[cs]) (FM.nX fs tx++[f]) [] w':=by have m:=fun k j=>(h.own.lt k j).1;refine⟨h.ext.grown i m,aG h.ext.size i.size,az _,?_,by rw[show tl [] (.slice none 0 0)=[]from rfl,iU];exact r,dO,by intro g a;simp at a;subst a;exact j⟩;refine(h.fits.snoc p).imp (fun _ _ s=>(s.mono i.size).keep (fun g t _ a=>?_));refine(i.block g (ag a) (fun e=>?_)).trans a;obtain⟨u,d⟩:=h.own.type g e.symm;rw[a]at d;injection d with d;injection d with _ d _;exact absurd d (by decide)
theorem wZ.new{r:Int}{nb:Nat}(h:wZ w T vl vt cf fs [] wr)(s:nb=wr.heap.size)(A:World)(t:A=wr.alloc (.cells #[.int .i32 r] 21))(p:World)(j:Ext A p)(B:ay 109 5 Raw w.heap.size w' v' (cf++[Tq (.slice (some ⟨nb,0,none⟩) 1 1)]))(u:p.grownBy w' vl.ownBlock):wZ w nb v' (.slice (some ⟨nb,0,none⟩) 1 1) cf fs [r] w':=by
 subst s t;have v:=fun k C=>(h.own.lt k C).1;have d:Ext wr p:=((aa wr).alloc _).trans j;have m:∀(g:Nat)(a:Array Value),p.heap[g]?=some (.cells a 21 (0,0))->w'.heap[g]?=some (.cells a 21 (0,0)):=by intro g a f;refine(u.block g (ag f) (fun e=>?_)).trans f;obtain⟨F,D⟩:=h.own.type g e.symm;have i:=d.heap D;rw[f]at i;injection i with i;injection i with _ i _;exact absurd i (by decide)
 refine⟨(h.ext.trans d).grown u v,h.ext.size,aG d.size u.size,h.fit.imp (fun _ _ z=>(z.mono h.top).keep (fun g a _ f=>m g a (d.heap f))),B,?_,h.nt⟩;have E:ay 21 1 Cc wr.heap.size (wr.alloc (.cells #[.int .i32 r] 21)) (.slice (some ⟨wr.heap.size,0,none⟩) 1 1) [r]:=zn wr [r] (az _) (by simp);exact E.pV (fun _ _ z=>z) (fun g a _ f=>m g a (j.heap f))
theorem wZ.more{A:Option Addr}{n c:Nat}{r:Int}{g o:Nat}(h:wZ w T (.slice A n c) vt cf fs tx wr)(C:tx≠[])(I:A=some ⟨g,0,none⟩)(J:o=cf.length*5+3)(K:ay 21 1 Cc T w' v' (tx++[r]))(B:wr.grownBy w' vt.ownBlock):wZ w T (.slice A n c) v' cf fs (tx++[r]) (w'.setCell ⟨g,o,none⟩ v'):=by
 subst I J;have s:=fun k D=>(h.txt.lt k D).1;have i:=h.own;rw[show tl tx vt=[Tq vt]from ae C]at i;obtain⟨O,t,u,L,P,M,E,N,v⟩:=i.I8;injection u with u;injection u with u _ _;subst u;have G:w'.heap[g]?=some (.cells t 109 (0,0)):=by refine(B.block g (ag E) (fun e=>?_)).trans E;obtain⟨Q,m⟩:=h.txt.type g e.symm;rw[E]at m;injection m with m;injection m with _ m _;exact absurd m (by decide)
 have j:∀f z,w'.heap[f]?=some (.cells z 21 (0,0))->f≠g:=by intro f z a e;subst e;rw[G]at a;injection a with a;injection a with _ a _;exact absurd a (by decide)
 refine⟨(h.ext.grown B (fun k D=>aG h.lo (s k D))).set (p:=⟨g,_,none⟩) L _,h.lo,aG h.top (aG B.size (by simp)),?_,?_,?_,h.nt⟩
 .refine h.fit.imp (fun _ _ F=>F.keep (fun f z a d=>?_));have H:w'.heap[f]?=some (.cells z 21 (0,0)):=(B.block f (ag d) (by intro e;have:=s f e.symm;omega)).trans d;rw[eu (j f _ H)];exact H
 .rw[show tl (tx++[r]) v'=[Tq v']from ae (by simp)];exact v _ v' 3 (by omega) (aP G)
 .refine K.pV (fun _ _ F=>F) (fun f z _ d=>?_);rw[eu (j f _ d)];exact d
end
theorem uM(s:List Int)(r:Value)(w:World)(t:ib w r s):Calls Tryz.prog 66 #[r] w (qV (s.all RX.aQ) w):=by
 have H:=jd t;obtain⟨A,I,rfl,C,D,-⟩:=t;have u:=jd Rq;go_enter Tryz.func66,Tryz.ntmps66;go_wp2_with fail;go_loop[3](fun i=>∃k:Nat,k<=s.length/\i=.int .i64 k/\(s.take k).all RX.aQ=true)(fun i=>s.length-(intOf i).toNat);case atStart=>exact⟨0,aL _,rfl,rfl⟩
 case round=>
  obtain⟨k,J,rfl,d⟩:=hrel;have v:=jd d;clear d;by_cases a:k<s.length
  .obtain⟨b,o,rfl,E⟩:=H.o.at_ a;have F:=jd (aU a);have z:=jd (show(s.take (k+1)).all RX.aQ=RX.aQ s[k]by rw[kE a,List.all_append,v.o];simp);have B:=jd (show RX.aQ s[k]=false->s.all RX.aQ=false from fun h=>by rw[List.all_eq_false];exact⟨s[k],bK a,by simp[h]⟩);generalize s[k]=x at E z B F;rcases f:RX.aQ x with _|_
   .have j:=jd (B.o f);have m:=jd f;clear f;go_wp2_with(go_at_call 23;refine(u.o x _).mono ?_;rw[m.o];rintro e G⟨rfl,rfl⟩);go_ret;exact⟨by rw[j.o];rfl,rfl⟩
   .have p:=jd (z.o.trans f);have m:=jd f;clear f;go_wp2_with(go_at_call 23;refine(u.o x _).mono ?_;rw[m.o];rintro e G⟨rfl,rfl⟩);go_round;case rel=>exact⟨k+1,by omega,by go_num,p.o⟩
    case measure=>simp[intOf];omega
  .have j:=jd (show s.all RX.aQ=true by have:=v.o;rwa[pU (by omega)]at this);go_wp2_with fail;go_ret;exact⟨by rw[j.o];rfl,rfl⟩
def acm(w:World)(cf:List (List Value))(fs:List FM.Form)(tx:List Int)(e:Ending)(w':World):Prop:=∃(T:Nat)(A:Option Addr)(n c:Nat)(vt:Value),e=.returned (.slice A n c)/\n=cf.length+1/\wZ w T (.slice A n c) vt cf fs tx w'
theorem Fits.kind{B T:Nat}{w:World}{a:List (List Value)}{fs:List FM.Form}(h:Fits B T w a fs){cs:List Value}(e:a.getLast?=some cs):∃f vt i,fs.getLast?=some f/\cs=[.int .i64 f.kind,.int .i64 f.group,.int .i64 f.rX,vt,i]:=by
 rw[List.getLast?_eq_getElem?]at e;have k:=(dh.1 e).1;have d:fs.length-1<fs.length:=by have:=h.1;omega
 have j:=aU d;obtain⟨vt,i,m,_⟩:=h.2 _ cs _ e (by rw[h.1];exact j);exact⟨_,vt,i,by rw[List.getLast?_eq_getElem?];exact j,m⟩
theorem wZ.aav{w wr w':World}{T g:Nat}{i vt:Value}{cf:List (List Value)}{fs:List FM.Form}{tx:List Int}{d:Array Value}(h:wZ w T i vt cf fs tx wr)(f:wr.heap[g]?=some (.cells d 109 (0,0)))(j:wr.grownBy w' vt.ownBlock):w'.heap[g]?=some (.cells d 109 (0,0)):=by refine(j.block g (ag f) (fun e=>?_)).trans f;obtain⟨k,a⟩:=h.txt.type g e.symm;rw[f]at a;injection a with a;injection a with _ a _;exact absurd a (by decide)
theorem Vf(w:World)(T:Nat)(R vt:Value)(cf:List (List Value))(fs:List FM.Form)(tx:List Int)(r:Int)(wr:World)(h:wZ w T R vt cf fs tx wr)(N:fs.length<=1000000000)(O:tx.length<=1000000000):Calls Tryz.prog 73 #[R,.int .i32 r] wr (acm w cf fs (tx++[r])):=by
 have s:=jd h;have S:=jd (show cf.length<=1000000000 by rw[h.fit.1];exact N);obtain⟨A,c,rfl,p,hcm⟩:=h.own.form;by_cases v:tx=[]
 .subst v;have i:=jd (show ay 109 5 Raw w.heap.size (wr.alloc (.cells #[.int .i32 r] 21)) (.slice A (cf++tl [] vt).length c) cf from by have F:=(h.aj ((aa wr).alloc (.cells #[.int .i32 r] 21))).own;rw[show tl ([]:List Int) vt=[]from rfl,iU]at F;rw[show tl ([]:List Int) vt=[]from rfl,iU];exact F);have z:(cf++tl [] vt).length=cf.length:=by rw[show tl ([]:List Int) vt=[]from rfl,iU]
  rw[z]at i p s⊢;rcases List.eq_nil_or_concat cf with j|⟨k,P,j⟩
  .subst j;clear h z O N p;go_enter Tryz.func73,Tryz.ntmps73;go_wp2_with(at_builtin;refine C9 Tryz.underlying26 zZ rfl (by decide) (by decide) (AR []) (by simp) rfl _ _ rfl w.heap.size _ [] (Tq (.slice (some ⟨wr.heap.size,0,none⟩) 1 1)) (Tq (.slice (some ⟨wr.heap.size,0,none⟩) 1 1)) 109 i.o ⟨rfl,rfl⟩ rfl (by simp[Value.oneCell',Tq]) rfl (wr.heap.size+1) rfl (by simp) S.o ?hB ?_;(case hB=>exact aG s.o.ext.size (by simp));intro U G V D B;have H:=jd (wZ.new s.o rfl _ rfl _ ((aa _).alloc _) D B);clear D B);go_ret;exact⟨_,_,_,_,_,rfl,rfl,H.o⟩
  .have t:cf.getLast?=some P:=by rw[j];simp
   obtain⟨f,vt9,ve9,I,J⟩:=h.fit.kind t;have X:=h.nt f I;have hb0:(f.kind==0)=false:=by simpa using X
   have d:=i.o;rw[j]at d;rw[List.concat_eq_append]at d;have e:cf.length=k.length+1:=by rw[j];simp
   have zV:(k.concat P).length=k.length+1:=by simp
   obtain⟨g,u,Q,K,-,-,C,a,-⟩:=(show ay 109 5 Raw w.heap.size wr (.slice A cf.length c) (k++[P])from by have F:=h.own;rw[z,show tl ([]:List Int) vt=[]from rfl,iU]at F;rw[<-List.concat_eq_append,<-j];exact F).I8;subst Q;have c0:=cy (k.length*5) C;rw[show u[k.length*5]?=some (.int .i64 f.kind)from a 0 _ (by rw[J];rfl)]at c0;obtain⟨m,E⟩:∃m,k.length=m:=⟨_,rfl⟩;rw[E]at c0 e;have L:=jd e;have hgl:=ag C;have afh:m+1<=c:=by omega
   have M:decide ((0:Int)<=(m:Int))=true:=by simp
   rw[e]at s i⊢;clear h z O N p j t I J X d zV C a E e;go_enter Tryz.func73,Tryz.ntmps73;go_wp2_with(at_builtin;refine C9 Tryz.underlying26 zZ rfl (by decide) (by decide) (AR []) (by simp) rfl _ _ rfl w.heap.size _ cf (Tq (.slice (some ⟨wr.heap.size,0,none⟩) 1 1)) (Tq (.slice (some ⟨wr.heap.size,0,none⟩) 1 1)) 109 i.o ⟨rfl,rfl⟩ rfl (by simp[Value.oneCell',Tq]) rfl (wr.heap.size+1) rfl (by simp) S.o ?hB ?_;(case hB=>exact aG s.o.ext.size (by simp));intro U G V D B;have H:=jd (wZ.new s.o rfl _ rfl _ ((aa _).alloc _) D B);clear D B);go_ret;exact⟨_,_,_,_,_,rfl,(by first|rfl|rw[L.o]),H.o⟩
 .have d:=h.own;rw[show tl tx vt=[Tq vt]from ae v]at d p s⊢;obtain⟨g,u,Q,K,-,-,C,a,-⟩:=d.I8;subst Q;have e:(cf++[Tq vt]).length=cf.length+1:=by simp
  rw[e]at p s⊢;obtain⟨m,E⟩:∃m,cf.length=m:=⟨_,rfl⟩;have Y:=jd E;rw[E]at a p s⊢;obtain⟨Z,cv,rfl,hv1,hv2⟩:=h.txt.form;have c0:=cy (m*5) C;rw[show u[m*5]?=some (.int .i64 0)from a 0 _ rfl]at c0;have c3:=cy (m*5+3) C;rw[show u[m*5+3]?=some (.slice Z tx.length cv)from a 3 _ rfl]at c3;have HH:=jd C;have bQ:=jd (show u[m*5+3]?=some (.slice Z tx.length cv)from a 3 _ rfl);have hgl:=ag C;have M:decide ((0:Int)<=(m:Int))=true:=by simp
  have nG:=jd v;clear h N d e C a E v;go_enter Tryz.func73,Tryz.ntmps73;go_wp2_with(at_builtin;have yJ:=jd (s.o.aj ((aa wr).alloc (.cells #[.int .i32 r] 21)));refine C9 eT gQ rfl (by decide) (by decide) (dQ []) (by simp) rfl _ _ rfl T _ tx r [.int .i32 r] 21 s.o.txt rfl rfl (by simp[Value.oneCell']) rfl wr.heap.size rfl rfl O s.o.top ?_;intro U G V D B;have K:=yJ.o.aav (((aa wr).alloc _).heap HH.o) B;have d3:=(cy (m*5+3) K).trans bQ.o;have e3:=fq (m*5+3) K;have H:=jd (wZ.more yJ.o nG.o rfl (show m*5+3=cf.length*5+3 by rw[Y.o]) D B);clear K D B);go_ret;exact⟨_,_,_,_,_,rfl,by rw[Y.o],H.o⟩
theorem CF.weaken{B a:Nat}{w:World}{cs:List Value}{f:FM.Form}(h:CF B w cs f)(d:a<=B):CF a w cs f:=by obtain⟨vt,e,i,j,k⟩:=h;exact⟨vt,e,i,j.weaken d,k.weaken d⟩
theorem NL{s:List Int}{k d:Nat}{f:FM.Form}(e:s.all RX.aQ=true)(h:jD s k=some (f,d)):f.kind≠0:=by unfold jD at h;rw[Br]at h;obtain⟨⟨j,c⟩,i,a⟩:=h;injection a with a m;simp only at a;subst a;exact(FM.C8 i (FM.oL e _)).2.1
theorem wZ.len{w wr:World}{T n c:Nat}{A:Option Addr}{vt:Value}{cf:List (List Value)}{fs:List FM.Form}{tx:List Int}(h:wZ w T (.slice A n c) vt cf fs tx wr):n=(FM.nX fs tx).length:=by obtain⟨d,e,a,_⟩:=h.done.form;injection a
theorem wZ.form{w wr:World}{T:Nat}{v vt:Value}{cf:List (List Value)}{fs:List FM.Form}{tx:List Int}(h:wZ w T v vt cf fs tx wr):∃A n c,v=.slice A n c/\n<=c/\c<=9223372036854775807:=by obtain⟨A,c,a,d,e⟩:=h.own.form;exact⟨A,_,c,a,d,e⟩
theorem R3(s:List Int)(vs:Value)(a:Int)(w:World)(hs:ib w vs s)(hsl:s.length<=900000000):Calls Tryz.prog 47 #[vs,.int .i64 a] w (abC (uD s a) w):=by
 have H:=jd hs;have L:=jd (uM s vs w hs);obtain⟨A,ca,rfl,hlx,hcx,-⟩:=hs;obtain⟨R,hR⟩:∃R,uD s a=R:=⟨_,rfl⟩;rw[hR];have HR:=jd hR;clear hR;by_cases ha0:a<0;rotate_left;focus
  by_cases ha1:(s.length:Int)<a;rotate_left;focus
   obtain⟨i,rfl⟩:∃i:Nat,a=i:=⟨a.toNat,by omega⟩;have hd0:decide ((i:Int)<0)=false:=by simp
   have hd1:decide ((s.length:Int)<(i:Int))=false:=by simp;omega
   have hd2:decide (s.length<i)=false:=by simp;omega
   have hil:i<=s.length:=by omega
   rcases z:s.all RX.aQ with _|_
   .have t:=jd (show R=none by rw[<-HR.o];unfold uD;rw[ae (by rw[z];simp)]);rw[z]at L;clear z ha0 ha1;go_enter Tryz.func47,Tryz.ntmps47;go_wp2_with(go_at_call 66;refine L.o.mono ?_;rintro e w'⟨rfl,rfl⟩);go_ret3;exact⟨aa _,.inr ⟨t.o,rfl⟩⟩
   have HS:=jd (show kr s i [] []=R by rw[<-HR.o];unfold uD;rw[av ⟨by omega,by omega,z⟩];rfl);have NK:=jd z;rw[z]at L;clear z ha0 ha1;have Ux:=jd Hg;have Nq:=jd (fun(j:Nat)(hj:j<s.length)(W:World)(hW:Ext w W)=>RZ s _ j W (H.o.ext hW) (by omega) hj);go_enter Tryz.func47,Tryz.ntmps47;go_wp2_with(go_at_call 66;refine L.o.mono ?_;rintro e w'⟨rfl,rfl⟩);go_loopw[1,7](fun x v wr=>∃(k T:Nat)(A1:Option Addr)(n1 c1:Nat)(vt:Value)(cf:List (List Value))(fs:List FM.Form)(tx:List Int),k<=s.length/\x=.int .i64 (k:Int)/\v=.slice A1 n1 c1/\wZ w T (.slice A1 n1 c1) vt cf fs tx wr/\fs.length<=k/\tx.length<=k/\kr s k fs tx=R)(fun x _ _=>s.length-(intOf x).toNat);case atStart=>exact⟨i,_,_,_,_,_,[],[],[],hil,rfl,rfl,wZ.start w,aL _,aL _,HS.o⟩
   case round=>
    obtain⟨k,T,A1,n1,c1,vt,cf,fs,tx,hk,rfl,rfl,Y,hfl,htl,hT⟩:=hrel;have p:=jd Y;have S:=jd hT;obtain⟨At,nt,ct,hv,hnc,hcm⟩:=Y.form;injection hv with e1 e2 e3;subst e1 e2 e3;have J:=jd (fun(r:Int)(W:World)(hW:wZ w T (.slice A1 n1 c1) vt cf fs tx W)=>Vf w T _ vt cf fs tx r W hW (by omega) (by omega));clear Y hT;by_cases u:k<s.length;rotate_left
    .have t:=jd (show R=none by rw[<-S.o,aab (by omega)]);go_wp2_with fail;go_ret3;exact⟨p.o.ext,.inr ⟨t.o,rfl⟩⟩
    obtain⟨b,o,rfl,U⟩:=(H.o.ext p.o.ext).at_ u;by_cases d:s[k]=47
    .have t:=jd (show R=some (FM.nX fs tx,k)by rw[<-S.o,Un u d]);rw[d]at U;clear d;have WO:=jd p.o.len;go_wp2_with fail;go_ret3;refine⟨p.o.ext,.inl ⟨_,k,A1,c1,t.o,by rw[<-WO.o];rfl,?_⟩⟩;rw[<-WO.o];exact p.o.done
    by_cases B:s[k]=36
    .obtain⟨F,hF⟩:∃F,jD s k=F:=⟨_,rfl⟩;have Vg:=jd hF;have HP:=jd (Nq.o k u _ p.o.ext);have Z:=U;rw[B]at Z;cases F with
     |none=>
      have t:=jd ((yR (fs:=fs) (tx:=tx) u d (fun _=>hF) (fun h=>absurd (B.symm.trans h.1) (by decide))).symm.trans S.o);rw[B]at t;clear d B hF U;go_upto_region 12 with(go_at_call 74;refine HP.o.mono ?_;rw[Vg.o];rintro e K⟨hx,hx2⟩;have p:=jd (p.o.aj hx);have Z:=hx.cell Z;clear hx;rcases hx2 with⟨f,k3,cs,V,-,-⟩|⟨V,rfl⟩;(exact absurd V (by simp)));have sH:=(aa K).alloc (.cells #[.int .i64 0,.int .i64 0,.int .i64 0,.slice none 0 0,.slice none 0 0] 109);have p:=jd (p.o.aj sH);have Z:=sH.cell Z;clear sH;generalize K.alloc (.cells #[.int .i64 0,.int .i64 0,.int .i64 0,.slice none 0 0,.slice none 0 0] 109)=w4 at p Z⊢;go_wp2_with(go_at_call 73;refine(J.o 36 _ p.o).mono ?_;rintro e w3⟨M,A3,n3,c3,N,rfl,I,m⟩;have O:=jd m;have NN:=jd I;clear m I);go_roundw;case rel=>exact⟨k+1,M,_,_,_,N,cf,fs,_,by omega,by go_num,rfl,O.o,by omega,by rw[ai];simp;omega,t.o⟩
      case measure=>simp[intOf];omega
     |some q=>
      obtain⟨f,k'⟩:=q;have hle:=Uq NK.o hF u;have HK:=jd (NL NK.o hF);have t:=jd ((XG (fs:=fs) (tx:=tx) u B hF).symm.trans S.o);clear d B hF U;obtain⟨hle1,hle2⟩:=hle;have hpos:decide ((0:Int)<(k':Int))=true:=by simp;omega
      go_upto_region 12 with(go_at_call 74;refine HP.o.mono ?_;rw[Vg.o];rintro e K⟨hx,hx2⟩;rcases hx2 with⟨f',k3,cs,V,rfl,Mc,ve',rfl,ht,he⟩|⟨V,-⟩;rotate_left;(exact absurd V (by simp));injection V with V;injection V with hq1 hq2;subst hq1 hq2;obtain⟨C,D,rfl,-⟩:=ht.form;obtain⟨E,G,rfl,-⟩:=he.form;have fw:=jd (CF.weaken ⟨_,_,rfl,ht,he⟩ p.o.ext.size:CF w.heap.size K [.int .i64 f.kind,.int .i64 f.group,.int .i64 f.rX,.slice C f.text.length D,.slice E f.els.length G] f);have p:=jd (p.o.aj hx);clear hx ht he);have sH:=(aa K).alloc (.cells #[.int .i64 f.kind,.int .i64 f.group,.int .i64 f.rX,.slice C f.text.length D,.slice E f.els.length G] 109);have p:=jd (p.o.aj sH);have fw:=jd (fw.o.gM (au sH));have P:=aB K (.cells #[.int .i64 f.kind,.int .i64 f.group,.int .i64 f.rX,.slice C f.text.length D,.slice E f.els.length G] 109);clear sH Z;generalize K.alloc (.cells #[.int .i64 f.kind,.int .i64 f.group,.int .i64 f.rX,.slice C f.text.length D,.slice E f.els.length G] 109)=w4 at p fw P⊢;generalize K.heap.size=nb at P⊢;obtain⟨d0,d1,d2,d3,d4⟩:=cc5 P;have hcl:(cf++tl tx vt).length<=1000000000:=by rw[aau cf fs tx vt p.o.fit.1];unfold FM.nX;split<;>first|omega|(simp;omega)
      have CV:=jd hcl;have ZT:=jd (show(FM.nX fs tx++[f]).length<=k' by rw[ai];unfold FM.nX;split<;>first|omega|(simp;omega));clear P hcl;go_wp2_with(at_builtin;have yJ:=jd (p.o.aj ((aa w4).alloc (.cells #[.int .i64 f.kind,.int .i64 f.group,.int .i64 f.rX,.slice C f.text.length D,.slice E f.els.length G] 109)));refine C9 Tryz.underlying26 zZ rfl (by decide) (by decide) (AR []) (by simp) rfl _ _ rfl w.heap.size _ (cf++tl tx vt) [.int .i64 f.kind,.int .i64 f.group,.int .i64 f.rX,.slice C f.text.length D,.slice E f.els.length G] [.int .i64 f.kind,.int .i64 f.group,.int .i64 f.rX,.slice C f.text.length D,.slice E f.els.length G] 109 p.o.own ⟨rfl,rfl⟩ rfl (by simp[Value.oneCell']) rfl w4.heap.size rfl rfl CV.o p.o.ext.size ?_;intro gg cap w1 h1 h2;generalize(cf++tl tx vt).length+1=nn at h1⊢;have HF:=jd (wZ.part yJ.o ((fw.o.gM (au ((aa w4).alloc _))).cft) HK.o h1 h2);clear h1 h2);go_roundw;case rel=>exact⟨k',_,_,_,_,_,_,FM.nX fs tx++[f],[],hle2,rfl,rfl,HF.o,ZT.o,aL _,t.o⟩
      case measure=>simp[intOf];omega
    by_cases X:s[k]=92
    .have b1:(s[k]==47)=false:=by simpa using d
     have b3:(s[k]==92)=true:=by simpa using X
     have b2:(s[k]==36)=false:=by simpa using B
     by_cases Q:k+1<s.length
     .have Vb:(k:Int)+1<s.length:=by omega
      obtain⟨b',o',Tp,hc'⟩:=(H.o.ext p.o.ext).at_ Q;injection Tp with Tp;injection Tp with hb1 hb2;subst hb1 hb2;by_cases hm:s[k+1]∈FM.outer
      .have t:=jd ((aac (fs:=fs) (tx:=tx) Q X hm).symm.trans S.o);have K8:=jd (show decide (s[k+1]∈FM.outer)=true from bJ hm);clear X d B hm;generalize s[k]=x at U b1 b2 b3;generalize s[k+1]=y at hc' K8 t;go_wp2_with(first|(go_at_call 55;refine(Ux.o y _).mono ?_;rw[K8.o];rintro e' K⟨rfl,rfl⟩)|(go_at_call 73;refine(J.o y _ p.o).mono ?_;rintro e w3⟨M,A3,n3,c3,N,rfl,I,m⟩;have O:=jd m;have NN:=jd I;clear m I));go_roundw;case rel=>exact⟨k+2,M,_,_,_,N,cf,fs,_,by omega,by go_num,rfl,O.o,by omega,by rw[ai];simp;omega,t.o⟩
       case measure=>simp[intOf];omega
      .have t:=jd ((yR (fs:=fs) (tx:=tx) u d (fun h=>absurd h B) (fun h=>by obtain⟨_,_,h⟩:=h;exact hm h)).symm.trans S.o);have K8:=jd (show decide (s[k+1]∈FM.outer)=false from bR hm);clear X d B hm;generalize s[k]=x at U b1 b2 b3 t;generalize s[k+1]=y at hc' K8;go_wp2_with(first|(go_at_call 55;refine(Ux.o y _).mono ?_;rw[K8.o];rintro e' K⟨rfl,rfl⟩)|(go_at_call 73;refine(J.o x _ p.o).mono ?_;rintro e w3⟨M,A3,n3,c3,N,rfl,I,m⟩;have O:=jd m;have NN:=jd I;clear m I));go_roundw;case rel=>exact⟨k+1,M,_,_,_,N,cf,fs,_,by omega,by go_num,rfl,O.o,by omega,by rw[ai];simp;omega,t.o⟩
       case measure=>simp[intOf];omega
     .have t:=jd ((yR (fs:=fs) (tx:=tx) u d (fun h=>absurd h B) (fun h=>by obtain⟨_,h,_⟩:=h;exact Q h)).symm.trans S.o);have Vb:¬(k:Int)+1<s.length:=by omega
      clear X d B Q;generalize s[k]=x at U b1 b2 b3 t;go_wp2_with(go_at_call 73;refine(J.o x _ p.o).mono ?_;rintro e w3⟨M,A3,n3,c3,N,rfl,I,m⟩;have O:=jd m;have NN:=jd I;clear m I);go_roundw;case rel=>exact⟨k+1,M,_,_,_,N,cf,fs,_,by omega,by go_num,rfl,O.o,by omega,by rw[ai];simp;omega,t.o⟩
      case measure=>simp[intOf];omega
    have t:=jd ((yR (fs:=fs) (tx:=tx) u d (fun h=>absurd h B) (fun h=>X h.1)).symm.trans S.o);have b1:(s[k]==47)=false:=by simpa using d
    have b2:(s[k]==36)=false:=by simpa using B
    have b3:(s[k]==92)=false:=by simpa using X
    clear d B X;generalize s[k]=x at U b1 b2 b3 t;go_wp2_with(go_at_call 73;refine(J.o x _ p.o).mono ?_;rintro e w3⟨M,A3,n3,c3,N,rfl,I,m⟩;have O:=jd m;have NN:=jd I;clear m I);go_roundw;case rel=>exact⟨k+1,M,_,_,_,N,cf,fs,_,by omega,by go_num,rfl,O.o,by omega,by rw[ai];simp;omega,t.o⟩
    case measure=>simp[intOf];omega
 all_goals
  have t:=jd (show R=none by rw[<-HR.o];unfold uD;rw[ae (by omega)]);go_enter Tryz.func47,Tryz.ntmps47;go_wp2_with fail;go_ret3;exact⟨aa _,.inr ⟨t.o,rfl⟩⟩
end Go.Proofs.YtcogknbbbjnaiaaGreatDoor
