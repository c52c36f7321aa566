/- For ShowTells: what the texts XRaS XRaT XRaG XRbA XShM XShA XShL XRbD XRbB XRbC XShDg of wip/tpl say. -/
import Derived.Test.YtcogknbbbjnaiaaGreatDoorS
set_option maxRecDepth 100000
set_option maxHeartbeats 4000000
namespace Go.Proofs.YtcogknbbbjnaiaaGreatDoor
open Go.RowKit
structure Mf(B T:Nat)(w w':World):Prop where
 os:w'.os=w.os
 tape:w'.tape=w.tape
 output:w'.output=w.output
 size:w.heap.size<=w'.heap.size
 o:∀i,i<w.heap.size->¬(B<=i/\i<T)->w'.heap[i]?=w.heap[i]?
theorem Mf.refl(B T:Nat)(w:World):Mf B T w w:=⟨rfl,rfl,rfl,az _,fun _ _ _=>rfl⟩
theorem Mf.trans{B T:Nat}{a b c:World}(h:Mf B T a b)(k:Mf B T b c):Mf B T a c:=⟨k.os.trans h.os,k.tape.trans h.tape,k.output.trans h.output,aG h.size k.size,fun i hi d=>(k.o i (mJ hi h.size) d).trans (h.o i hi d)⟩
theorem Mf.set{B T g o:Nat}(w:World)(u:Value)(a:B<=g)(d:g<T):Mf B T w (w.setCell ⟨g,o,none⟩ u):=⟨rfl,rfl,rfl,by simp,fun i _ f=>eu (by intro e;subst e;exact f ⟨a,d⟩)⟩
theorem Mf.ext{B T:Nat}{w0 w w':World}(h:Ext w0 w)(k:Mf B T w w')(a:w0.heap.size<=B):Ext w0 w':=⟨k.os.trans (Below.os h),k.tape.trans (Below.tape h),k.output.trans (Below.output h),aG (Below.size h) k.size,fun i hi=>(k.o i (mJ hi (Below.size h)) (by omega)).trans (Below.block h i hi)⟩
theorem Mf.dW{B T:Nat}{w w':World}(k:Mf B T w w'):qJ T w w':=fun g o d a=>(k.o g (ag a) (by omega)).trans a
structure Zp(B T:Nat)(w w':World):Prop where
 R4:Mf B T w w'
 row:∀(g:Nat)(cur:Array Value),w.heap[g]?=some (.cells cur 21 (0,0))->∃cur',w'.heap[g]?=some (.cells cur' 21 (0,0))/\cur'.size=cur.size
 Zq:∀(g:Nat)(cur:Array Value),w.heap[g]?=some (.cells cur 109 (0,0))->w'.heap[g]?=some (.cells cur 109 (0,0))
theorem Zp.refl(B T:Nat)(w:World):Zp B T w w:=⟨Mf.refl _ _ _,fun _ a h=>⟨a,h,rfl⟩,fun _ _ h=>h⟩
theorem Zp.set{B T g o:Nat}{w a:World}{j:Array Value}(h:Zp B T w a)(u:Value)(r:B<=g)(s:g<T)(t:a.heap[g]?=some (.cells j 21 (0,0))):Zp B T w (a.setCell ⟨g,o,none⟩ u):=by
 refine⟨h.R4.trans (Mf.set a u r s),fun i k f=>?_,fun i k f=>?_⟩
 .obtain⟨m,d,p⟩:=h.row i k f;by_cases e:i=g
  .subst e;exact⟨_,aP d,by simpa using p⟩
  .exact⟨m,by rw[eu e];exact d,p⟩
 .have d:=h.Zq i k f;have e:i≠g:=by intro e;subst e;rw[t]at d;injection d with d;injection d with _ d _;exact absurd d (by decide)
  rw[eu e];exact d
def Shp(B T:Nat)(w:World)(v:Value):Prop:=∃(A:Option Addr)(n c:Nat),v=.slice A n c/\n<=c/\c<=9223372036854775807/\(A=none->n=0)/\∀ad,A=some ad->∃g o cur,ad=⟨g,o,none⟩/\B<=g/\g<T/\w.heap[g]?=some (.cells cur 21 (0,0))/\o+n<=cur.size
theorem Shp.of{B T:Nat}{w:World}{v:Value}{xs:List Int}(h:aT 21 1 Cc B w v xs)(j:M4 T v):Shp B T w v:=by obtain⟨A,c,rfl,k,m,p,r⟩:=h;refine⟨A,xs.length,c,rfl,k,m,fun e=>by have:=p e;omega,fun f a=>?_⟩;obtain⟨g,o,d,i,s,t,u,_⟩:=r f a;refine⟨g,o,d,i,s,?_,t,by omega⟩;have:=j f xs.length c (by rw[a]);rw[i]at this;exact this
theorem Shp.spo{B T:Nat}{w w':World}{v:Value}(h:Shp B T w v)(f:∀(g:Nat)(d:Array Value),w.heap[g]?=some (.cells d 21 (0,0))->∃a,w'.heap[g]?=some (.cells a 21 (0,0))/\a.size=d.size):Shp B T w' v:=by obtain⟨A,n,c,rfl,i,j,k,m⟩:=h;refine⟨A,n,c,rfl,i,j,k,fun p e=>?_⟩;obtain⟨g,o,d,r,s,t,u,C⟩:=m p e;obtain⟨a,z,D⟩:=f g d u;exact⟨g,o,a,r,s,t,z,by omega⟩
def ad5(B T:Nat)(w:World)(e:Ending)(w':World):Prop:=e=.returned (.tuple #[])/\Zp B T w w'
theorem NP(B T:Nat)(v:Value)(w:World)(h:Shp B T w v):Calls Tryz.prog 20 #[v] w (ad5 B T w):=by
 have H:=jd h;obtain⟨A,n,c,rfl,z,C,-⟩:=id h;clear h;go_enter Tryz.func20,Tryz.ntmps20;go_wp2_with fail;go_loopw[2](fun i wr=>∃k:Nat,k<=n/\i=.int .i64 (k:Int)/\Zp B T w wr)(fun i _=>n-(intOf i).toNat);case atStart=>exact⟨0,aL _,rfl,Zp.refl _ _ _⟩
 case round=>
  obtain⟨k,L,rfl,a⟩:=hrel;have j:=jd a;by_cases D:k<n
  .obtain⟨M,N,O,E,F,_,m,p⟩:=H.o.spo a.row;injection E with G I J;subst G I J;cases A with
   |none=>have:=m rfl;omega
   |some K=>
    obtain⟨g,o,e,rfl,r,s,d,P⟩:=p K rfl;have t:=cy (o+k) d;rw[Array.getElem?_eq_getElem (by omega)]at t;have Q:=fq (o+k) d;have f:=jd (And.intro r (And.intro s d));generalize e[o+k]'(by omega)=u at t;clear r s d a F m p;go_wp2_with fail;go_roundw;case rel=>exact⟨k+1,by omega,by go_num,j.o.set _ f.o.1 f.o.2.1 f.o.2.2⟩
    case measure=>simp[intOf];omega
  .clear a;go_wp2_with fail;go_end0;exact⟨rfl,j.o⟩
theorem AU{P:Program}{t e:TypeId}{i:TypeInfo}(a:P.underlying t=some (.slice e))(hi:P.info? e=some i)(A:Option Addr){n c m:Nat}(f:m<=c)(W:World):(Instr.slice t (.slice A n c) none (some (.int .i64 (m:Int))) none).run P W=.ok (.slice A m c) W:=by
 have d:(m:Int)<=c:=by omega
 simp[Instr.slice,Instr.sliceBounds,run_underlying a,sizeOf,typeInfo,hi,run_sliceBound,d];intro _;cases A<;>simp[Addr.add]
def PV(w:World)(cs:List Value)(f:FM.Form):Prop:=∃vt ve,cs=[.int .i64 f.kind,.int .i64 f.group,.int .i64 f.rX,vt,ve]/\ib w vt f.text/\ib w ve f.els
theorem PV.ext{w w':World}{cs:List Value}{f:FM.Form}(h:PV w cs f)(a:Ext w w'):PV w' cs f:=by obtain⟨vt,d,e,i,j⟩:=h;exact⟨vt,d,e,i.ext a,j.ext a⟩
theorem CF.cfc{B:Nat}{w:World}{cs:List Value}{f:FM.Form}(h:CF B w cs f):PV w cs f:=by obtain⟨vt,a,d,e,i⟩:=h;exact⟨vt,a,d,e.mV,i.mV⟩
theorem PV.NQ{w:World}{cs:List Value}{f:FM.Form}(h:PV w cs f):∃A c a d,cs=[.int .i64 f.kind,.int .i64 f.group,.int .i64 f.rX,.slice A f.text.length c,.slice a f.els.length d]/\ib w (.slice A f.text.length c) f.text/\ib w (.slice a f.els.length d) f.els:=by obtain⟨vt,k,j,e,i⟩:=h;obtain⟨A,c,rfl,-⟩:=id e;obtain⟨a,d,rfl,-⟩:=id i;exact⟨A,c,a,d,j,e,i⟩
def Jw(w:World)(v:Value)(l:List FM.Form):Prop:=nz 5 (fun w b o f=>∃cs,PV w cs f/\∀(i:Nat)(u:Value),cs[i]?=some u->w.cell? ⟨b,o+i,none⟩=some u) w v l
theorem Jw.ext{w w':World}{v:Value}{l:List FM.Form}(h:Jw w v l)(a:Ext w w'):Jw w' v l:=h.mono fun _ _ _⟨d,e,f⟩=>⟨d,e.ext a,fun i u j=>a.cell (f i u j)⟩
theorem Jw.kQ{w:World}{v:Value}{l:List FM.Form}(h:Jw w v l):∃A c,v=.slice A l.length c/\l.length<=c/\c<=9223372036854775807:=by obtain⟨A,c,a,d,e,-⟩:=h;exact⟨A,c,a,d,e⟩
theorem Jw.atF{w:World}{A:Option Addr}{n c:Nat}{l:List FM.Form}(h:Jw w (.slice A n c) l){k:Nat}(a:k<l.length):∃g o cs,A=some ⟨g,o,none⟩/\PV w cs l[k]/\∀(i:Nat)(u:Value),cs[i]?=some u->w.cell? ⟨g,o+k*5+i,none⟩=some u:=by obtain⟨b,o,d,cs,e,f⟩:=nz.at_ h (aU a);exact⟨b,o,cs,d,e,f⟩
theorem aT.slf{B f:Nat}{w:World}{v:Value}{l:List FM.Form}(h:aT 109 5 (CF B) f w v l):Jw w v l:=by
 obtain⟨A,c,rfl,j,m,e,p⟩:=h;refine⟨A,c,rfl,j,m,fun k x a=>?_,e⟩;cases A with
 |none=>have:=e rfl;rw[gD (by omega)]at a;cases a
 |some r=>obtain⟨g,o,d,rfl,_,s,_,t⟩:=p r rfl;obtain⟨z,C,D⟩:=t k x a;exact⟨g,o,rfl,z,C.cfc,fun i u E=>(cell_of_row w g _ d 109 (0,0) s).trans (D i u E)⟩
theorem K9(l:List FM.Form)(v:Value)(w:World)(Q:Jw w v l):Calls Tryz.prog 64 #[v] w (qL (.bool (FM.may l)) w):=by
 obtain⟨A,ca,rfl,hlc,hcm⟩:=Q.kQ;have X:=jd Q;clear Q;go_enter Tryz.func64,Tryz.ntmps64;go_wp2_with fail;go_loopw[7](fun i wr=>∃k:Nat,k<=l.length/\i=.int .i64 (k:Int)/\Ext w wr/\FM.ic false (l.take k)=true)(fun i _=>l.length-(intOf i).toNat);case atStart=>exact⟨0,aL _,rfl,aa w,rfl⟩
 case round=>
  obtain⟨k,hk,rfl,D,Y⟩:=hrel;have z:=jd D;have Z:=jd Y;clear Y;by_cases s:k<l.length
  .obtain⟨g,o,cs,rfl,t,a⟩:=(X.o.ext D).atF s;have N:=jd (fun(R:FM.dJ l[k]=true)(h3:(FM.lQ false (l.take k)&&l[k].kind==0)=false)=>FM.GI s Z.o R h3);have S:=jd (fun(R:FM.dJ l[k]=false\/(FM.lQ false (l.take k)&&l[k].kind==0)=true)=>FM.UA s R);have O:∀j,k=j+1->∃x:Int,(l[j]?).map FM.Form.kind=some x/\wr.cell? ⟨g,o+j*5,none⟩=some (.int .i64 x)/\FM.lQ false (l.take k)=(x==0):=by
    intro j hj;subst hj;have E:j<l.length:=by omega
    obtain⟨g',o',cs',B,Vh,p⟩:=(X.o.ext D).atF E;injection B with B;injection B with T U;subst T U;obtain⟨A1,c1,A2,c2,rfl,-⟩:=Vh.NQ;exact⟨l[j].kind,by rw[aU E];rfl,by have:=p 0 _ rfl;rwa[fB]at this,FM.D5 (by omega)⟩
   generalize l[k]=f at t N S;obtain⟨A1,c1,A2,c2,rfl,ht,B⟩:=t.NQ;have V:=a 0 _ rfl;have d1:=a 1 _ rfl;have d2:=a 2 _ rfl;have d3:=a 3 _ rfl;have d4:=a 4 _ rfl;rw[fB]at V;have F:=jd (fun W(hW:Ext wr W)=>Ur f.kind f.group f.rX f.text f.els _ _ W (ht.ext hW) (B.ext hW));have hbl:=iP _ _ V;clear a t ht B D;rcases C:FM.dJ f with _|_
   .have G:=jd (show FM.may l=false from S.o (.inl C));have m:=jd (show FM.dJ ⟨f.kind,f.group,f.rX,f.text,f.els⟩=false from C);clear C O;go_wp2_with(go_at_call 87;refine(F.o _ ((aa wr).alloc _)).mono ?_;rw[m.o];rintro e P⟨rfl,h⟩);go_ret;exact⟨by rw[G.o];rfl,(z.o.alloc _).trans h⟩
   .have m:=jd (show FM.dJ ⟨f.kind,f.group,f.rX,f.text,f.els⟩=true from C);have u:=jd C;clear C;by_cases H:k=0
    .subst H;simp only[Nat.zero_mul,fB]at V d1 d2 d3 d4;have I:=jd (show FM.ic false (l.take (0+1))=true from N.o u.o rfl);clear O;go_wp2_with(go_at_call 87;refine(F.o _ ((aa wr).alloc _)).mono ?_;rw[m.o];rintro e P⟨rfl,h⟩);go_roundw;case rel=>exact⟨1,by omega,by go_num,(z.o.alloc _).trans h,I.o⟩
     case measure=>simp[intOf];omega
    .obtain⟨j,rfl⟩:∃j,k=j+1:=⟨k-1,by omega⟩;obtain⟨x,-,r,J⟩:=O j rfl;have K:=jd J;clear O H J;have hj1:(0:Int)<(j:Int)+1:=by omega
     rcases L:(f.kind==0)with _|_
     .have I:=jd (N.o u.o (by rw[L,Bool.and_false]));go_wp2_with(go_at_call 87;refine(F.o _ ((aa wr).alloc _)).mono ?_;rw[m.o];rintro e P⟨rfl,h⟩;have d:=h.heap (aB wr _);have p0:=cy 0 d;clear d);go_roundw;case rel=>exact⟨j+1+1,by omega,by go_num,(z.o.alloc _).trans h,I.o⟩
      case measure=>simp[intOf];omega
     .rcases M:(x==0)with _|_
      .have I:=jd (N.o u.o (by rw[K.o,M];rfl));go_wp2_with(go_at_call 87;refine(F.o _ ((aa wr).alloc _)).mono ?_;rw[m.o];rintro e P⟨rfl,h⟩;have d:=h.heap (aB wr _);have p0:=cy 0 d;have r:=(((aa wr).alloc _).trans h).cell r;clear d);go_roundw;case rel=>exact⟨j+1+1,by omega,by go_num,(z.o.alloc _).trans h,I.o⟩
       case measure=>simp[intOf];omega
      .have G:=jd (show FM.may l=false from S.o (.inr (by rw[K.o,M,L];rfl)));go_wp2_with(go_at_call 87;refine(F.o _ ((aa wr).alloc _)).mono ?_;rw[m.o];rintro e P⟨rfl,h⟩;have d:=h.heap (aB wr _);have p0:=cy 0 d;have r:=(((aa wr).alloc _).trans h).cell r;clear d);go_ret;exact⟨by rw[G.o];rfl,(z.o.alloc _).trans h⟩
  .have G:=jd (show FM.may l=true by rw[FM.z8 l k,Z.o,jg (by omega)];rfl);clear D;go_wp2_with fail;go_ret;exact⟨by rw[G.o];rfl,z.o⟩
theorem NR(l:List FM.Form)(v:Value)(w:World)(C:Jw w v l)(hb:FM.nH l<=35184372080000):Calls Tryz.prog 78 #[v] w (UB l w):=by
 have D:=jd (K9 l v w C);obtain⟨A,ca,rfl,V,X⟩:=C.kQ;have N:=jd C;clear C;rcases s:FM.may l with _|_
 .have E:=jd s;rw[s]at D;clear s;go_enter Tryz.func78,Tryz.ntmps78;go_wp2_with(go_at_call 64;refine D.o.mono ?_;rintro e Y⟨rfl,F⟩);go_ret2;exact⟨F,.inr ⟨E.o,rfl⟩⟩
 .have E:=jd s;rw[s]at D;clear s;go_enter Tryz.func78,Tryz.ntmps78;go_wp2_with(go_at_call 64;refine D.o.mono ?_;rintro e Y⟨rfl,F⟩;have Z:=jd F;clear F);go_loopw[4,12](fun v i wr=>∃k:Nat,k<=l.length/\i=.int .i64 (k:Int)/\iT w v (FM.print (l.take k)) wr)(fun _ i _=>l.length-(intOf i).toNat);case atStart=>exact⟨0,aL _,rfl,dO,Z.o⟩
  case round=>
   obtain⟨k,hk,rfl,j⟩:=hrel;have t:=jd j;have r:=j.ext;obtain⟨Ao,co,rfl,-⟩:=j.own.form;clear j;by_cases d:k<l.length
   .obtain⟨g,o,O,rfl,h,a⟩:=(N.o.ext r).atF d;have G:∃z,PV w z l[k]/\∀i u,z[i]?=some u->w.cell? ⟨g,o+k*5+i,none⟩=some u:=by obtain⟨g',o',H,m,Vh,p⟩:=N.o.atF d;injection m with m;injection m with I J;subst I J;exact⟨H,Vh,p⟩
    clear h a O;obtain⟨O,h,a⟩:=G;have K:=jd (FM.D6 d);have L:=FM.D7 d;have P:=jd (FM.D8 E.o l[k] (bK d));generalize l[k]=f at h K L P;unfold FM.sz at L;obtain⟨A1,c1,A2,c2,rfl,Q,m⟩:=h.NQ;have R:=r.cell (a 0 _ rfl);have d1:=r.cell (a 1 _ rfl);have d2:=r.cell (a 2 _ rfl);have d3:=r.cell (a 3 _ rfl);have d4:=r.cell (a 4 _ rfl);rw[fB]at R;have S:=jd (fun W(hW:iT w (.slice Ao (FM.print (l.take k)).length co) (FM.print (l.take k)) W)=>XK w W _ _ _ (FM.print (l.take k)) f hW Q m P.o (by omega));have hbl:=iP _ _ R;clear a h Q m r;generalize FM.print (l.take k)=B at t K S L⊢;go_wp2_with(go_at_call 99;refine(S.o _ (iW t.o)).mono ?_;rintro e w3⟨A3,c3,m,M,-⟩;generalize T:B++FM.put f=qZ at m M;subst m;have HL:=jd T;have pW:=jd M;clear T M);go_roundw;case rel=>exact⟨k+1,by omega,by go_num,by rw[K.o,HL.o];exact pW.o⟩
    case measure=>simp[intOf];omega
   .have U:=jd (show FM.print (l.take k)=FM.print l by rw[pU (by omega)]);clear r;generalize FM.print (l.take k)=B at t U⊢;go_wp2_with fail;go_ret2;refine⟨t.o.ext,.inl ⟨E.o,?_⟩⟩;rw[<-U.o];exact⟨_,_,rfl,t.o.own⟩
def AtT(w:World)(b o:Nat)(s:List Int):Prop:=∃u,w.cell? ⟨b,o,none⟩=some u/\ib w u s
abbrev Jv:=@nz (List Int) 1 AtT
theorem Jv.ext{w w':World}{v:Value}{l:List (List Int)}(h:Jv w v l)(a:Ext w w'):Jv w' v l:=h.mono fun _ _ _⟨u,d,e⟩=>⟨u,a.cell d,e.ext a⟩
def De(x:SH.dC)(vt vi vp vf:Value):List Value:=[.int .i64 x.kind,.int .i64 x.deep,.int .i64 x.num,vt,vi,vp,vf,.bool x.all,.bool x.fold]
structure nS(w:World)(x:SH.dC)(vt vi vp vf:Value):Prop where
 text:ib w vt x.text
 items:Jv w vi x.items
 pat:ib w vp x.pat
 forms:Jw w vf x.forms
theorem nS.ext{w w':World}{x:SH.dC}{vt vi vp vf:Value}(h:nS w x vt vi vp vf)(a:Ext w w'):nS w' x vt vi vp vf:=⟨h.text.ext a,h.items.ext a,h.pat.ext a,h.forms.ext a⟩
theorem nS.shape{w:World}{x:SH.dC}{vt vi vp vf:Value}(h:nS w x vt vi vp vf):∃A c a c1 d c2 e c3,vt=.slice A x.text.length c/\vi=.slice a x.items.length c1/\vp=.slice d x.pat.length c2/\vf=.slice e x.forms.length c3/\(x.text.length<=9223372036854775807/\x.items.length<=9223372036854775807/\x.pat.length<=9223372036854775807/\x.forms.length<=9223372036854775807):=by obtain⟨A,c,i,r,s,-⟩:=h.text;obtain⟨a,c1,j,t,u,-⟩:=h.items;obtain⟨d,c2,k,v,z,-⟩:=h.pat;obtain⟨e,c3,f,m,p⟩:=h.forms.kQ;exact⟨A,c,a,c1,d,c2,e,c3,i,j,k,f,by omega,by omega,by omega,by omega⟩
def AtN(w:World)(b o:Nat)(x:SH.dC):Prop:=∃vt vi vp vf,nS w x vt vi vp vf/\∀(i:Nat)(u:Value),(De x vt vi vp vf)[i]?=some u->w.cell? ⟨b,o+i,none⟩=some u
abbrev jH:=@nz SH.dC 9 AtN
theorem AtN.ext{w w':World}{b o:Nat}{x:SH.dC}(h:AtN w b o x)(a:Ext w w'):AtN w' b o x:=by obtain⟨vt,vi,vp,vf,d,e⟩:=h;exact⟨vt,vi,vp,vf,d.ext a,fun i u f=>a.cell (e i u f)⟩
theorem jH.ext{w w':World}{v:Value}{l:List SH.dC}(h:jH w v l)(a:Ext w w'):jH w' v l:=h.mono fun _ _ _ d=>d.ext a
theorem jH.kQ{w:World}{v:Value}{l:List SH.dC}(h:jH w v l):∃A c,v=.slice A l.length c/\l.length<=c/\c<=9223372036854775807:=by obtain⟨A,c,a,d,e,-⟩:=h;exact⟨A,c,a,d,e⟩
theorem jH.P5{w:World}{A:Option Addr}{n c:Nat}{l:List SH.dC}(h:jH w (.slice A n c) l){k:Nat}(a:k<l.length):∃g o vt vi vp vf,A=some ⟨g,o,none⟩/\nS w l[k] vt vi vp vf/\∀(i:Nat)(u:Value),(De l[k] vt vi vp vf)[i]?=some u->w.cell? ⟨g,o+k*9+i,none⟩=some u:=by obtain⟨b,o,d,vt,vi,vp,vf,e,f⟩:=nz.at_ h (aU a);exact⟨b,o,vt,vi,vp,vf,d,e,f⟩
theorem OB(c:Int)(w:World):Calls Tryz.prog 88 #[.int .i32 c] w (lW (.bool (SH.letter c)) w):=by
 rcases Decidable.em (c=95)with rfl|a
 .go_enter Tryz.func88,Tryz.ntmps88;go_wp2_with fail;go_ret;exact⟨rfl,0,rfl⟩
 .have j:(c==95)=false:=by simpa using a
  by_cases d:97<=c<;>by_cases e:c<=122<;>by_cases f:65<=c<;>by_cases h:c<=90;all_goals first|(exfalso;omega)|skip
  all_goals
   have i:=jd (show SH.letter c=(((false||(decide (97<=c)&&decide (c<=122)))||(decide (65<=c)&&decide (c<=90))))by simp[SH.letter,a]);go_enter Tryz.func88,Tryz.ntmps88;go_wp2_with fail;go_ret;refine⟨aH ?_,0,rfl⟩;rw[i.o];simp[d,e,f,h]
def mf(k:Nat)(c:Int):Bool:=SH.letter c||(decide (k≠0)&&FM.Cw c)
theorem sN(s:List Int):SH.fA s=true<->0<s.length/\s.length<=32/\∀k(a:k<s.length),mf k s[k]=true:=by
 cases s with
 |nil=>simp[SH.fA]
 |cons c r=>
  simp only[SH.fA,jR,yO,jf];refine⟨fun⟨⟨h,d⟩,e⟩=>⟨by simp,by simp;omega,fun k a=>?_⟩,fun⟨_,d,e⟩=>⟨⟨?_,fun x i=>?_⟩,by simp at d;omega⟩⟩
  .cases k with
   |zero=>simp[mf,h]
   |succ k=>
    have f:k<r.length:=by simpa using a
    have j:=d r[k] (bK f);simpa[mf]using j
  .have:=e 0 (by simp);simpa[mf]using this
  .obtain⟨k,a,rfl⟩:=um.1 i;have:=e (k+1) (by simp;omega);simpa[mf]using this
theorem VP(s:List Int)(v:Value)(w:World)(z:ib w v s):Calls Tryz.prog 65 #[v] w (lW (.bool (SH.fA s)) w):=by
 obtain⟨A,P,rfl,K,L,-⟩:=id z;have M:=jd z;clear z;go_enter Tryz.func65,Tryz.ntmps65;go_wp2_with fail;go_loopw[7](fun i wr=>∃k:Nat,k<=s.length/\i=.int .i64 (k:Int)/\(∃n,wr=w.drewN n)/\∀j(f:j<s.length),j<k->mf j s[j]=true)(fun i _=>s.length-(intOf i).toNat);case atStart=>exact⟨0,aL _,rfl,⟨0,rfl⟩,by intro j _ h;omega⟩
 case round=>
  obtain⟨k,Q,rfl,⟨n,rfl⟩,H⟩:=hrel;have B:=jd H;clear H;by_cases r:k<s.length
  .obtain⟨b,o,rfl,d⟩:=(M.o.ext ((aa w).drewN n)).at_ r;obtain⟨c,C⟩:∃c,s[k]=c:=⟨_,rfl⟩;have D:=jd C;rw[C]at d;have t:=jd (fun W=>OB c W);obtain⟨lt,E⟩:∃lt,SH.letter c=lt:=⟨_,rfl⟩;rw[E]at t;have I:=jd E;clear C E;cases lt
   .have u:(k=0\/c<48\/57<c)->SH.fA s=false:=fun h=>by
     rcases N:SH.fA s with _|_
     .rfl
     .have:=((sN s).1 N).2.2 k r;rw[D.o]at this;simp[mf,I.o,FM.Cw]at this;omega
    have J:=jd u;clear u;rcases xm k with p|p
    .have k0:((k:Int)==0)=true:=by simp;omega
     have k1:(k==0)=true:=by simp;omega
     have O:=jd p;clear p;go_wp2_with(go_at_call 88;refine(t.o _).mono ?_;rintro e F⟨rfl,m,rfl⟩);go_ret;exact⟨aH (by rw[J.o (.inl O.o)];rfl),n+m,by simp⟩
    have k0:((k:Int)==0)=false:=by simp;omega
    by_cases a:c<48;rotate_left;focus
     by_cases R:57<c;rotate_left;focus
      go_wp2_with(go_at_call 88;refine(t.o _).mono ?_;rintro e F⟨rfl,m,rfl⟩);go_roundw;case rel=>
       exact⟨k+1,by omega,by go_num,⟨n+m,by simp⟩,by
        intro j f h;rcases fC j k with a|a
        .exact B.o j f a
        .obtain rfl:j=k:=by omega
         simp[mf,D.o,FM.Cw];omega⟩
      case measure=>simp[intOf];omega
    all_goals
     go_wp2_with(go_at_call 88;refine(t.o _).mono ?_;rintro e F⟨rfl,m,rfl⟩);go_ret;exact⟨aH (by rw[J.o (by omega)];rfl),n+m,by simp⟩
   .go_wp2_with(go_at_call 88;refine(t.o _).mono ?_;rintro e F⟨rfl,m,rfl⟩);go_roundw;case rel=>
     exact⟨k+1,by omega,by go_num,⟨n+m,by simp⟩,by
      intro j f h;rcases fC j k with a|a
      .exact B.o j f a
      .obtain rfl:j=k:=by omega
       simp[mf,D.o,I.o]⟩
    case measure=>simp[intOf];omega
  .have G:=jd (show SH.fA s=(decide (0<s.length)&&decide (s.length<=32))by rw[Bool.eq_iff_iff,sN];simp only[jR,jf];exact⟨fun h=>⟨h.1,h.2.1⟩,fun h=>⟨h.1,h.2,fun j f=>B.o j f (by omega)⟩⟩);by_cases p:0<s.length
   .by_cases a:s.length<=32
    .go_wp2_with fail;go_ret;exact⟨aH (by rw[G.o];simp[p,a];omega),n,by simp⟩
    .go_wp2_with fail;go_ret;exact⟨aH (by rw[G.o];simp[a];omega),n,by simp⟩
   .go_wp2_with fail;go_ret;exact⟨aH (by rw[G.o];simp[p]),n,by simp⟩
def Bh(c:Int):Bool:=(RX.within c 97 122||RX.within c 65 90)||c==95
def nV(c:Int):Bool:=Bh c||FM.Cw c
theorem qj(c:Int):Bh c=SH.letter c:=by unfold Bh SH.letter RX.within;rw[show(c==95)=decide (c=95)by rw[Bool.eq_iff_iff];simp];generalize decide (c=95)=a;generalize(decide (97<=c)&&decide (c<=122))=b;generalize(decide (65<=c)&&decide (c<=90))=d;cases a<;>cases b<;>cases d<;>rfl
theorem yl(c:Int)(w:World):Calls Tryz.prog 26 #[.int .i32 c] w (qV (Bh c) w):=by
 have a:=jd (sJ c w);have d:=jd (show Bh c=((RX.within c 97 122||RX.within c 65 90)||c==95)from rfl);generalize(RX.within c 97 122||RX.within c 65 90)=b at a d;cases b;all_goals
  go_enter Tryz.func26,Tryz.ntmps26;go_wp2_with(refine a.o.mono ?_;rintro e f⟨rfl,rfl⟩);go_ret;exact⟨aH (by rw[d.o];rfl),rfl⟩
theorem LG(c:Int)(w:World):Calls Tryz.prog 27 #[.int .i32 c] w (qV (nV c) w):=by
 have f:=jd (yl c w);have h:=jd (sG c w);have a:=jd (show nV c=(Bh c||FM.Cw c)from rfl);generalize Bh c=b at f a;generalize FM.Cw c=d at h a;cases b;all_goals
  go_enter Tryz.func27,Tryz.ntmps27;go_wp2_with(first|(go_at_call 26;refine f.o.mono ?_;rintro e i⟨rfl,rfl⟩)|(go_at_call 25;refine h.o.mono ?_;rintro e i⟨rfl,rfl⟩));go_ret;exact⟨aH (by rw[a.o];rfl),rfl⟩
theorem Fw(k:Int)(w:World):Calls Tryz.prog 42 #[.int .i64 k] w (qV (decide (k=2)||decide (k=6)) w):=by
 rcases d:(k==2)with _|_;focus
  have a:¬k=2:=by simpa using d
  have e:=jd (show(decide (k=2)||decide (k=6))=(k==6)by rw[bR a,Bool.false_or,Bool.eq_iff_iff];simp)
 rotate_left;focus
  have a:k=2:=by simpa using d
  have e:=jd (show(decide (k=2)||decide (k=6))=true by rw[bJ a,Bool.true_or])
 rotate_left;all_goals
  clear a;go_enter Tryz.func42,Tryz.ntmps42;go_wp2_with fail;go_ret;exact⟨aH (by rw[e.o];rfl),rfl⟩
def Ch(s:List Int)(k r:Nat):Prop:=(k<r/\r<=s.length/\r<=k+32/\(∀c,s[k]?=some c->Bh c=true)/\(∀(i:Nat)(c:Int),k<=i->i<r->s[i]?=some c->nV c=true)/\(∀c,s[r]?=some c->nV c=false))\/(r=0/\(s.length<=k\/(∃c,s[k]?=some c/\Bh c=false)\/(k+32<s.length/\∀(i:Nat)(c:Int),k<=i->i<=k+32->s[i]?=some c->nV c=true)))
def VY(s:List Int)(k:Nat)(w:World)(e:Ending)(w':World):Prop:=∃r:Nat,e=.returned (.int .i64 (r:Int))/\Ch s k r/\w=w'
theorem ym{s:List Int}{r:Nat}(h:Ch s 0 r)(w:s≠[]):decide ((r:Int)=(s.length:Int))=SH.fA s:=by
 have B:∀(k:Nat)(i:k<s.length),SH.fA s=true->mf k s[k]=true:=fun k i h=>((sN s).1 h).2.2 k i;have j:0<s.length:=gq.2 w;rw[Bool.eq_iff_iff,jf,sN];constructor
 .intro e;rcases h with⟨p,f,m,u,v,-⟩|⟨p,-⟩
  .refine⟨j,by omega,fun k i=>?_⟩;have t:=v k s[k] (aL _) (by omega) (aU i);unfold mf;unfold nV at t;rw[qj]at t;cases k with
   |zero=>have:=u s[0] (aU j);rw[qj]at this;simp[this]
   |succ k=>simpa using t
  .omega
 .rintro⟨-,z,d⟩;rcases h with⟨p,f,m,u,v,A⟩|⟨p,f⟩
  .rcases fC r s.length with h|h
   .exfalso;have a:=A s[r] (aU h);have b:=d r h;unfold nV at a;rw[qj]at a;unfold mf at b;simp only[Bool.or_eq_false_iff]at a;rw[a.1,a.2]at b;simp at b
   .omega
  .exfalso;rcases f with f|⟨c,f,m⟩|⟨f,-⟩
   .omega
   .rw[aU j]at f;injection f with f;have:=d 0 j;unfold mf at this;rw[f]at this;rw[qj]at m;rw[m]at this;simp at this
   .omega
theorem Fx{s:List Int}{k r q:Nat}(h:Ch s k r)(g:Ch s k q):r=q:=by
 have f:∀{a b:Nat},(k<a/\a<=s.length/\a<=k+32/\(∀c,s[k]?=some c->Bh c=true)/\(∀(i:Nat)(c:Int),k<=i->i<a->s[i]?=some c->nV c=true)/\(∀c,s[a]?=some c->nV c=false))->(s.length<=k\/(∃c,s[k]?=some c/\Bh c=false)\/(k+32<s.length/\∀(i:Nat)(c:Int),k<=i->i<=k+32->s[i]?=some c->nV c=true))->a=b:=by
  intro a b⟨w,z,t,u,v,p⟩j;exfalso;rcases j with j|⟨c,j,m⟩|⟨j,m⟩
  .omega
  .rw[u c j]at m;cases m
  .have d:a<s.length:=by omega
   have e:=aU d;have:=p _ e;rw[m a _ (by omega) t e]at this;cases this
 rcases h with h|⟨rfl,h⟩<;>rcases g with g|⟨rfl,g⟩
 .obtain⟨w,z,t,u,v,p⟩:=h;obtain⟨C,D,E,F,A,B⟩:=g;rcases Nat.lt_trichotomy r q with d|d|d
  .have e:=aU (show r<s.length by omega);have:=p _ e;rw[A r _ (by omega) d e]at this;cases this
  .exact d
  .have e:=aU (show q<s.length by omega);have:=B _ e;rw[v q _ (by omega) d e]at this;cases this
 .exact f h g
 .exact(f g h).symm
 .rfl
theorem kS(s:List Int)(R:Value)(k:Nat)(w:World)(S:ib w R s)(U:k<=1000000000):Calls Tryz.prog 29 #[R,.int .i64 (k:Int)] w (VY s k w):=by
 have H:=jd S;obtain⟨A,ca,rfl,V,X,-⟩:=S;by_cases I:k<s.length;rotate_left
 .have J:(s.length:Int)<=k:=by omega
  have K:=jd (show s.length<=k by omega);clear I;go_enter Tryz.func29,Tryz.ntmps29;go_wp2_with fail;go_ret;exact⟨0,rfl,.inr ⟨rfl,.inl K.o⟩,rfl⟩
 have J:¬(s.length:Int)<=k:=by omega
 obtain⟨b,o,rfl,a⟩:=H.o.at_ I;have C:=jd (aU I);have D:=jd (fun W=>yl s[k] W);generalize s[k]=x at a D C;rcases z:Bh x with _|_
 .have K:=jd z;rw[z]at D;clear z;go_enter Tryz.func29,Tryz.ntmps29;go_wp2_with(refine(D.o _).mono ?_;rintro e G⟨rfl,rfl⟩);go_ret;exact⟨0,rfl,.inr ⟨rfl,.inr (.inl ⟨x,C.o,K.o⟩)⟩,rfl⟩
 have t:=jd z;rw[z]at D;clear z;have Y:=jd (fun c W=>LG c W);go_enter Tryz.func29,Tryz.ntmps29;go_wp2_with(go_at_call 26;refine(D.o _).mono ?_;rintro e G⟨rfl,rfl⟩);go_loop[5](fun i=>∃j:Nat,k<=j/\j<=s.length/\i=.int .i64 (j:Int)/\∀(i:Nat)(c:Int),k<=i->i<j->s[i]?=some c->nV c=true)(fun i=>s.length-(intOf i).toNat);case atStart=>exact⟨k,az _,by omega,rfl,by intro i c B L;omega⟩
 case round=>
  obtain⟨j,Z,T,rfl,r⟩:=hrel;have E:=jd r;clear r;by_cases F:j<s.length
  .have M:(j:Int)<s.length:=by omega
   obtain⟨b',o',N,O⟩:=H.o.at_ F;injection N with N;injection N with e1 e2 _;subst e1 e2;have f:=jd (aU F);have d:=jd (Y.o s[j]);generalize s[j]=y at O f d;rcases m:nV y with _|_
   .rw[m]at d;have P:=jd m;have Q:k<j:=by
     rcases fC k j with h|h
     .exact h
     .obtain rfl:k=j:=by omega
      have e:=C.o.symm.trans f.o;injection e with e;subst e;have:=t.o;unfold nV at m;rw[this]at m;simp at m
    clear m;by_cases u:j<=k+32
    .have v:¬(32:Int)<(j:Int)-k:=by omega
     go_wp2_with(go_at_call 27;refine(d.o _).mono ?_;rintro e G⟨rfl,rfl⟩);go_ret;exact⟨j,rfl,.inl ⟨Q,T,u,fun c a=>by rw[C.o]at a;injection a with a;subst a;exact t.o,E.o,fun c a=>by rw[f.o]at a;injection a with a;subst a;exact P.o⟩,rfl⟩
    .have v:(32:Int)<(j:Int)-k:=by omega
     go_wp2_with(go_at_call 27;refine(d.o _).mono ?_;rintro e G⟨rfl,rfl⟩);go_ret;exact⟨0,rfl,.inr ⟨rfl,.inr (.inr ⟨by omega,fun i c B L p=>E.o i c B (by omega) p⟩)⟩,rfl⟩
   .rw[m]at d;have P:=jd m;clear m;go_wp2_with(go_at_call 27;refine(d.o _).mono ?_;rintro e G⟨rfl,rfl⟩);go_round;case rel=>
     refine⟨j+1,by omega,by omega,by go_num,fun i c B L p=>?_⟩;rcases fC i j with h|h
     .exact E.o i c B h p
     .obtain rfl:i=j:=by omega
      rw[f.o]at p;injection p with p;subst p;exact P.o
    case measure=>simp[intOf];omega
  .have M:¬(j:Int)<s.length:=by omega
   have mQ:=jd (show∀c,s[j]?=some c->nV c=false from fun c a=>by rw[gD (by omega)]at a;cases a);by_cases u:j<=k+32
   .have v:¬(32:Int)<(j:Int)-k:=by omega
    go_wp2_with fail;go_ret;exact⟨j,rfl,.inl ⟨by omega,T,u,fun c a=>by rw[C.o]at a;injection a with a;subst a;exact t.o,E.o,mQ.o⟩,rfl⟩
   .have v:(32:Int)<(j:Int)-k:=by omega
    go_wp2_with fail;go_ret;exact⟨0,rfl,.inr ⟨rfl,.inr (.inr ⟨by omega,fun i c B L p=>E.o i c B (by omega) p⟩)⟩,rfl⟩
def c1(kd gp cs:Int)(tx es:List Int):Bool:=decide (kd<0)||decide (4<kd)||decide (gp<0)||decide (99<gp)||decide (cs<0)||decide (5<cs)||!tx.all RX.aQ||!es.all RX.aQ
def c2(p:Bool)(kd gp cs:Int)(tx:List Int):Bool:=(!decide (kd=1)&&!decide (cs=0))||(decide (kd=0)&&(!decide (gp=0)||decide (tx.length=0)||p))
def c3(kd:Int)(tx es:List Int):Bool:=((decide (kd=1)||decide (kd=3))&&!decide (tx.length=0))||((!decide (kd=3)&&!decide (kd=4))&&!decide (es.length=0))
theorem Yf{a b:Prop} [Decidable a] [Decidable b](h:a<->¬b):decide a=!decide b:=by by_cases d:b<;>simp[h,d]
theorem acn(p:Bool)(d f cs:Int)(tx i:List Int):(FM.dJ ⟨d,f,cs,tx,i⟩&&!(p&&d==0))=(!c1 d f cs tx i&&!c2 p d f cs tx&&!c3 d tx i):=by
 have j:tx.isEmpty=decide (tx.length=0):=by cases tx<;>simp
 have k:i.isEmpty=decide (i.length=0):=by cases i<;>simp
 unfold FM.dJ c1 c2 c3;dsimp only;rw[j,k,Yf (show 0<=f<->¬f<0 by omega),Yf (show f<=99<->¬99<f by omega),Yf (show 0<=cs<->¬cs<0 by omega),Yf (show cs<=5<->¬5<cs by omega)];clear j k;generalize decide (tx.length=0)=u;generalize decide (i.length=0)=v;generalize decide (f=0)=g;generalize decide (cs=0)=c;generalize decide (f<0)=m;generalize decide (99<f)=r;generalize decide (cs<0)=s;generalize decide (5<cs)=t;generalize tx.all RX.aQ=a;generalize i.all RX.aQ=b;by_cases h:d=0\/d=1\/d=2\/d=3\/d=4
 .rcases h with rfl|rfl|rfl|rfl|rfl;all_goals
   simp;cases m<;>cases r<;>cases s<;>cases t<;>simp<;>cases a<;>cases b<;>simp<;>revert u v g c p<;>decide
 .have w:(decide (d<0)||decide (4<d))=true:=by simp;omega
  rw[w];have k0:¬d=0:=fun e=>h (.inl e);have k1:¬d=1:=fun e=>h (.inr (.inl e));have k2:¬d=2:=fun e=>h (.inr (.inr (.inl e)));have k3:¬d=3:=fun e=>h (.inr (.inr (.inr (.inl e))));have z:¬d=4:=fun e=>h (.inr (.inr (.inr (.inr e))));simp[k0,k1,k2,k3,z]
theorem sI(l:List FM.Form)(v:Value)(w:World)(hv:Jw w v l):Calls Tryz.prog 68 #[v] w (qL (.bool (FM.may l)) w):=by
 obtain⟨A,ca,rfl,hlc,hcm⟩:=hv.kQ;have a:=jd hv;clear hv;go_enter Tryz.func68,Tryz.ntmps68;go_wp2_with fail;go_loopw[3](fun i wr=>∃k:Nat,k<=l.length/\i=.int .i64 (k:Int)/\Ext w wr/\FM.ic false (l.take k)=true)(fun i _=>l.length-(intOf i).toNat);case atStart=>exact⟨0,aL _,rfl,aa w,rfl⟩
 case round=>
  obtain⟨k,hk,rfl,Y,hm⟩:=hrel;have Z:=jd Y;have HM:=jd hm;clear hm;by_cases T:k<l.length;rotate_left
  .have H:=jd (show FM.may l=true by rw[FM.z8 l k,HM.o,jg (by omega)];rfl);clear Y;go_wp2_with fail;go_ret;exact⟨by rw[H.o];rfl,Z.o⟩
  obtain⟨g,o,t,rfl,U,u⟩:=(a.o.ext Y).atF T;have zt:=jd (fun(J:(FM.dJ l[k]&&!(FM.lQ false (l.take k)&&l[k].kind==0))=true)=>FM.GI T HM.o (Bool.and_eq_true_iff.1 J).1 (by have:=(Bool.and_eq_true_iff.1 J).2;rwa[Bool.not_eq_true']at this));have V:=jd (fun(J:(FM.dJ l[k]&&!(FM.lQ false (l.take k)&&l[k].kind==0))=false)=>FM.UA T (by
   rcases hb:FM.dJ l[k]with _|_
   .exact .inl rfl
   .rw[hb]at J;right;simpa using J));have D:(k=0/\FM.lQ false (l.take k)=false)\/∃(j:Nat)(x:Int),k=j+1/\wr.cell? ⟨g,o+j*5,none⟩=some (.int .i64 x)/\FM.lQ false (l.take k)=(x==0):=by
   rcases xm k with rfl|hp
   .left;exact⟨rfl,rfl⟩
   .right;obtain⟨j,rfl⟩:∃j,k=j+1:=⟨k-1,by omega⟩;have hjl:j<l.length:=by omega
    obtain⟨g',o',cs',C,Vh,K⟩:=(a.o.ext Y).atF hjl;injection C with C;injection C with he1 he2;subst he1 he2;obtain⟨A1,c1,A2,c2,rfl,-⟩:=Vh.NQ;exact⟨j,l[j].kind,rfl,by have:=K 0 _ rfl;rwa[fB]at this,FM.D5 (by omega)⟩
  generalize FM.lQ false (l.take k)=p at zt V D;generalize l[k]=f at U zt V;obtain⟨A1,ct,A2,ce,rfl,r,C⟩:=U.NQ;obtain⟨d,B,t,tx,m⟩:=f;rw[acn]at zt V;dsimp only at r C u;have d0:=u 0 _ rfl;have d1:=u 1 _ rfl;have d2:=u 2 _ rfl;have d3:=u 3 _ rfl;have d4:=u 4 _ rfl;rw[fB]at d0;have X:=jd (fun W(L:Ext wr W)=>uM tx _ W (r.ext L));have qQ:=jd (fun W(L:Ext wr W)=>uM m _ W (C.ext L));have hbl:=iP _ _ d0;clear u U r C Y;go_upto_region 5 with fail;obtain⟨nb,hnb⟩:∃nb,nb=wr.heap.size:=⟨_,rfl⟩;have qD:=(aa wr).alloc (.cells #[.int .i64 d,.int .i64 B,.int .i64 t,.slice A1 tx.length ct,.slice A2 m.length ce] 109);have H:=jd (aB wr (.cells #[.int .i64 d,.int .i64 B,.int .i64 t,.slice A1 tx.length ct,.slice A2 m.length ce] 109));have S:=jd qD;have D:(k=0/\p=false)\/∃(j:Nat)(x:Int),k=j+1/\(wr.alloc (.cells #[.int .i64 d,.int .i64 B,.int .i64 t,.slice A1 tx.length ct,.slice A2 m.length ce] 109)).cell? ⟨g,o+j*5,none⟩=some (.int .i64 x)/\p=(x==0):=by
   rcases D with h|⟨j,x,z,J,E⟩
   .exact .inl h
   .exact .inr ⟨j,x,z,qD.cell J,E⟩
  rw[<-hnb]at H⊢;clear d0 d1 d2 d3 d4 hbl qD hnb;generalize wr.alloc (.cells #[.int .i64 d,.int .i64 B,.int .i64 t,.slice A1 tx.length ct,.slice A2 m.length ce] 109)=w4 at H S D⊢;obtain⟨q0,q1,q2,q3,q4⟩:=cc5 H.o;have BO:=jd D;clear D;go_cut[54](fun s wx=>s=.bool (c1 d B t tx m)/\wx=w4);case first=>
   by_cases G:d<0;focus
    have a:=jd (show c1 d B t tx m=true by unfold c1;rw[bJ (p:=d<0) G];simp)
   rotate_left;focus
    by_cases z:4<d;focus
     have a:=jd (show c1 d B t tx m=true by unfold c1;rw[bJ (p:=4<d) z];simp)
    rotate_left;focus
     by_cases J:B<0;focus
      have a:=jd (show c1 d B t tx m=true by unfold c1;rw[bJ (p:=B<0) J];simp)
     rotate_left;focus
      by_cases E:99<B;focus
       have a:=jd (show c1 d B t tx m=true by unfold c1;rw[bJ (p:=99<B) E];simp)
      rotate_left;focus
       by_cases F:t<0;focus
        have a:=jd (show c1 d B t tx m=true by unfold c1;rw[bJ (p:=t<0) F];simp)
       rotate_left;focus
        by_cases h5:5<t;focus
         have a:=jd (show c1 d B t tx m=true by unfold c1;rw[bJ (p:=5<t) h5];simp)
        rotate_left;focus
         rcases r:tx.all RX.aQ with _|_
         .have a:=jd (show c1 d B t tx m=true by unfold c1;rw[r];simp);have X:=jd (fun W L=>r▸X.o W L);clear r;go_wp2_with(go_at_call 66;refine(X.o _ S.o).mono ?_;rintro e w9⟨rfl,rfl⟩);go_meet;exact⟨by rw[a.o],rfl⟩
         have X:=jd (fun W L=>r▸X.o W L);rcases C:m.all RX.aQ with _|_;focus
          have a:=jd (show c1 d B t tx m=true by unfold c1;rw[r,C];simp)
         rotate_left;focus
          have a:=jd (show c1 d B t tx m=false by unfold c1;rw[r,C];simp[G,z,J,E,F,h5])
         rotate_left;all_goals
          have qQ:=jd (fun W L=>C▸qQ.o W L);clear r C;go_wp2_with(go_at_call 66;(first|with_reducible refine(X.o _ S.o).mono ?_|with_reducible refine(qQ.o _ S.o).mono ?_);rintro e w9⟨rfl,rfl⟩);go_meet;exact⟨by rw[a.o],rfl⟩
   all_goals
    go_wp2_with fail;go_meet;exact⟨by rw[a.o],rfl⟩
  case rest=>
   obtain⟨rfl,rfl⟩:=hcut;rcases M:c1 d B t tx m with _|_;rotate_left
   .have H:=jd (V.o (by rw[M];rfl));clear M;go_wp2_with fail;go_ret;exact⟨by rw[H.o];rfl,Z.o.trans S.o⟩
   have kJ:=jd M;clear M;go_upto_region 7 with fail;go_cut[91](fun s wx=>s=.bool (c2 p d B t tx)/\wx=wc);case first=>
    have D:=BO.o;by_cases z:d=1
    .have a:=jd (show c2 p d B t tx=false by simp[c2,z]);go_wp2_with fail;go_meet;exact⟨by first|(rw[a.o];done)|(rw[a.o];simp[z];done)|(rw[a.o];simp[z];omega),rfl⟩
    by_cases I:t=0
    .by_cases G:d=0
     .by_cases N:B=0
      .by_cases O:tx.length=0
       .have a:=jd (show c2 p d B t tx=true by simp[c2,G,I,N,O]);go_wp2_with fail;go_meet;exact⟨by first|(rw[a.o];done)|(rw[a.o];simp[G,I,N,O];done)|(rw[a.o];simp[G,I,N,O];omega),rfl⟩
       have hlp:0<tx.length:=by omega
       rcases D with D|⟨j,x,hj,hcx,P⟩
       .have a:=jd (show c2 p d B t tx=false by rw[D.2];simp[c2,G,I,N,O]);have hkz:¬(0:Int)<(k:Int):=by have:=D.1;omega
        clear D;go_wp2_with fail;go_meet;exact⟨by first|(rw[a.o];done)|(rw[a.o];simp[O];done),rfl⟩
       .have HJ:=jd hj;have hj1:(0:Int)<(k:Int):=by omega
        have hj2:(k:Int)-1=(j:Int):=by omega
        have hj3:j<l.length:=by omega
        by_cases hx:x=0
        .have a:=jd (show c2 p d B t tx=true by rw[P,hx];simp[c2,G,N,O]);clear hj P;go_wp2_with fail;go_meet;exact⟨by first|(rw[a.o];done)|(rw[a.o];simp[O,hx];done),rfl⟩
        .have a:=jd (show c2 p d B t tx=false by rw[P];simp[c2,G,I,N,O,hx]);clear hj P;go_wp2_with fail;go_meet;exact⟨by first|(rw[a.o];done)|(rw[a.o];simp[hx,O];done),rfl⟩
      have a:=jd (show c2 p d B t tx=true by simp[c2,G,N]);go_wp2_with fail;go_meet;exact⟨by first|(rw[a.o];done)|(rw[a.o];simp[G,N];done)|(rw[a.o];simp[G,N];omega),rfl⟩
     have a:=jd (show c2 p d B t tx=false by simp[c2,z,I,G]);go_wp2_with fail;go_meet;exact⟨by first|(rw[a.o];done)|(rw[a.o];simp[z,I,G];done)|(rw[a.o];simp[z,I,G];omega),rfl⟩
    have a:=jd (show c2 p d B t tx=true by simp[c2,z,I]);go_wp2_with fail;go_meet;exact⟨by first|(rw[a.o];done)|(rw[a.o];simp[z,I];done)|(rw[a.o];simp[z,I];omega),rfl⟩
   case rest=>
    obtain⟨rfl,rfl⟩:=hcut;rcases Q:c2 p d B t tx with _|_;rotate_left
    .have H:=jd (V.o (by rw[Q,kJ.o];rfl));clear Q;go_wp2_with fail;go_ret;exact⟨by rw[H.o];rfl,Z.o.trans S.o⟩
    have dY:=jd Q;clear Q;go_upto_region 9 with fail;go_cut[121](fun s wx=>s=.bool (c3 d tx m)/\wx=wc);case first=>
     by_cases r:tx.length=0;focus
      by_cases E:d=3
      .have a:=jd (show c3 d tx m=false by simp[c3,E,r]);go_wp2_with fail;go_meet;exact⟨by first|(rw[a.o];done)|(rw[a.o];simp[E,r];done)|(rw[a.o];simp[E,r];omega),rfl⟩
      by_cases F:d=4
      .have a:=jd (show c3 d tx m=false by simp[c3,F,r]);go_wp2_with fail;go_meet;exact⟨by first|(rw[a.o];done)|(rw[a.o];simp[F,r];done)|(rw[a.o];simp[F,r];omega),rfl⟩
      by_cases z:d=1
      .by_cases C:m.length=0
       .have a:=jd (show c3 d tx m=false by simp[c3,z,r,C]);go_wp2_with fail;go_meet;exact⟨by first|(rw[a.o];done)|(rw[a.o];simp[z,r,C];done)|(rw[a.o];simp[z,r,C];omega),rfl⟩
       have a:=jd (show c3 d tx m=true by simp[c3,z,r,C]);go_wp2_with fail;go_meet;exact⟨by first|(rw[a.o];done)|(rw[a.o];simp;done)|(rw[a.o];simp[];omega),rfl⟩
      by_cases C:m.length=0
      .have a:=jd (show c3 d tx m=false by simp[c3,z,E,F,r,C]);go_wp2_with fail;go_meet;exact⟨by first|(rw[a.o];done)|(rw[a.o];simp[z,E,F,r,C];done)|(rw[a.o];simp[z,E,F,r,C];omega),rfl⟩
      have a:=jd (show c3 d tx m=true by simp[c3,z,E,F,r,C])
     rotate_left;focus
      by_cases z:d=1
      .have a:=jd (show c3 d tx m=true by simp[c3,z,r]);go_wp2_with fail;go_meet;exact⟨by first|(rw[a.o];done)|(rw[a.o];simp[z,r];done)|(rw[a.o];simp[z,r];omega),rfl⟩
      by_cases E:d=3
      .have a:=jd (show c3 d tx m=true by simp[c3,E,r]);go_wp2_with fail;go_meet;exact⟨by first|(rw[a.o];done)|(rw[a.o];simp[E,r];done)|(rw[a.o];simp[E,r];omega),rfl⟩
      by_cases F:d=4
      .have a:=jd (show c3 d tx m=false by simp[c3,F]);go_wp2_with fail;go_meet;exact⟨by first|(rw[a.o];done)|(rw[a.o];simp[F];done)|(rw[a.o];simp[F];omega),rfl⟩
      by_cases C:m.length=0
      .have a:=jd (show c3 d tx m=false by simp[c3,z,E,F,C]);go_wp2_with fail;go_meet;exact⟨by first|(rw[a.o];done)|(rw[a.o];simp[z,E,F,C];done)|(rw[a.o];simp[z,E,F,C];omega),rfl⟩
      have a:=jd (show c3 d tx m=true by simp[c3,z,E,F,C])
     all_goals
      go_wp2_with fail;go_meet;exact⟨by first|(rw[a.o];done)|(rw[a.o];simp[E,F];done)|(rw[a.o];simp[E,F];omega),rfl⟩
    case rest=>
     obtain⟨rfl,rfl⟩:=hcut;rcases R:c3 d tx m with _|_
     .have HS:=jd (zt.o (by rw[R,kJ.o,dY.o];rfl));clear R;go_wp2_with fail;go_roundw;case rel=>exact⟨k+1,by omega,by go_num,Z.o.trans S.o,HS.o⟩
      case measure=>simp[intOf];omega
     .have H:=jd (V.o (by rw[R,kJ.o,dY.o];rfl));clear R;go_wp2_with fail;go_ret;exact⟨by rw[H.o];rfl,Z.o.trans S.o⟩
theorem oU(m:List Int)(bs:ByteArray)(M:∀(c:Int)(w:World),Calls Tryz.prog 55 #[.string bs,.int .i32 c] w (qV (decide (c∈m)) w))(s:List Int)(N:Value)(w:World)(O:ib w N s)(hb:s.length<=1000000000):Calls Tryz.prog 40 #[N,.string bs] w (Du (fun w' v=>ay 21 1 Cc w.heap.size w' v (FM.guard m s)) w):=by
 have H:=jd O;obtain⟨A,ca,rfl,S,T,-⟩:=O;have P:=jd M;clear M;go_enter Tryz.func40,Tryz.ntmps40;go_wp2_with fail;go_loopw[5,6](fun v i wr=>∃k:Nat,k<=s.length/\i=.int .i64 (k:Int)/\iT w v (FM.guard m (s.take k)) wr)(fun _ i _=>s.length-(intOf i).toNat);case atStart=>exact⟨0,aL _,rfl,dO,aa w⟩
 case round=>
  obtain⟨k,hk,rfl,h⟩:=hrel;have f:=jd h;have r:(FM.guard m (s.take k)).length<=2000000000:=by have:=kK m (s.take k);rw[kg]at this;omega
  obtain⟨Ao,co,rfl,-⟩:=h.own.form;have E:=h.size;clear h;by_cases C:k<s.length
  .obtain⟨b,o,rfl,u⟩:=H.o.at_ C;have F:=f.o.ext.cell u;have G:=jd u;clear u;have e:=xU (m:=m) C;by_cases B:s[k]∈m
   .have D:=jd (show decide (s[k]∈m)=true from bJ B);rw[av B]at e;have z:=jd (show FM.guard m (s.take (k+1))=(FM.guard m (s.take k)++[92])++[s[k]]by rw[e];simp);clear B e;generalize s[k]=x at F D z G;generalize FM.guard m (s.take k)=a at f z r⊢;have Q:True:=trivial;go_wp2_with(first|(go_at_call 55;refine(P.o x _).mono ?_;rw[D.o];rintro U V⟨rfl,rfl⟩)|(at_builtin;have _t:=Q;refine eX rfl _ _ rfl w.heap.size _ a [92] f.o.own.jC rfl ⟨wr.heap.size,0,none⟩ 1 1 rfl rfl (jE rfl) ?hn ?hB ?_;(case hn=>(simp only[aF,aN];omega));(case hB=>(simp;omega));intro v' w' d t;generalize j:a++[92]=I at d;have X:=jd j;have Y:I.length<=a.length+1:=(by rw[<-j,ai];exact az _);obtain⟨A2,c2,rfl,-⟩:=d.form;have p:=jd (iT.app (iW f.o) d t);have E:=p.o.size;have F:=p.o.ext.cell G.o;clear d t j Q _t)|(at_builtin;refine eX rfl _ _ rfl w.heap.size _ I [x] p.o.own.jC rfl ⟨w'.heap.size,0,none⟩ 1 1 rfl rfl (jE rfl) ?hn ?hB ?_;(case hn=>(simp only[aF,aN];omega));(case hB=>(simp;omega));intro Z w3 d t;generalize j:I++[x]=J at d;have K:=jd j;obtain⟨A3,c3,rfl,-⟩:=d.form;have L:=jd (iT.app (iW p.o) d t);clear d t j));go_roundw;case rel=>exact⟨k+1,by omega,by go_num,by rw[z.o,X.o,K.o];exact L.o⟩
    case measure=>simp[intOf];omega
   .have D:=jd (show decide (s[k]∈m)=false from bR B);rw[ae B]at e;have z:=jd e;clear B e;generalize s[k]=x at F D z G;generalize FM.guard m (s.take k)=a at f z r⊢;go_wp2_with(first|(go_at_call 55;refine(P.o x _).mono ?_;rw[D.o];rintro U V⟨rfl,rfl⟩)|(at_builtin;refine eX rfl _ _ rfl w.heap.size _ a [x] f.o.own.jC rfl ⟨wr.heap.size,0,none⟩ 1 1 rfl rfl (jE rfl) ?hn ?hB ?_;(case hn=>(simp only[aF,aN];omega));(case hB=>(simp;omega));intro Z w3 d t;generalize j:a++[x]=J at d;have K:=jd j;obtain⟨A3,c3,rfl,-⟩:=d.form;have L:=jd (iT.app (iW f.o) d t);clear d t j));go_roundw;case rel=>exact⟨k+1,by omega,by go_num,by rw[z.o,K.o];exact L.o⟩
    case measure=>simp[intOf];omega
  .have R:=jd (show FM.guard m (s.take k)=FM.guard m s by rw[pU (by omega)]);generalize FM.guard m (s.take k)=a at f R⊢;go_wp2_with fail;go_ret;exact⟨_,rfl,by rw[<-R.o];exact f.o.own,f.o.ext⟩
theorem NS(s:ByteArray)(w:World)(K:s.size<=1000000):Calls Tryz.prog 79 #[.string s] w (Du (fun w' v=>ay 21 1 Cc w.heap.size w' v (signs s)) w):=by
 go_enter Tryz.func79,Tryz.ntmps79;go_wp2_with fail;go_loopw[3,4](fun v i wr=>∃k:Nat,k<=s.size/\i=.int .i64 k/\ay 21 1 Cc w.heap.size wr v ((signs s).take k)/\Ext w wr)(fun _ i _=>s.size-(intOf i).toNat);case atStart=>exact⟨0,aL _,rfl,dO,aa w⟩
 case round=>
  obtain⟨k,t,rfl,hown,h⟩:=hrel;have a:=jd hown;have u:=jd h;have z:=jd hown.lt;obtain⟨A,c,rfl,j,E⟩:=hown.form;have d:((signs s).take k).length<=1000000:=by rw[kg,lN];omega
  have F:=h.size;by_cases m:k<s.size
  .have e:=jd (EJ m);have G:=jd (ry s[k]);generalize(signs s).take k=H at a z e d j⊢;obtain⟨I,p⟩:∃l,l=(signs s).take (k+1):=⟨_,rfl⟩;rw[<-p]at e;have J:=jd p;clear hown h p;have r:w.heap.size<=(wr.alloc (.cells #[.int .i32 (wrap32 (s[k].toNat:Int))] 21)).heap.size:=by simp;omega
   go_wp2_with(at_builtin;refine eX rfl _ _ rfl w.heap.size _ H [wrap32 (s[k].toNat:Int)] ?hown rfl ⟨wr.heap.size,0,none⟩ 1 1 rfl rfl ?hc ?hn ?hB ?_;(case hown=>exact a.o.jC);(case hc=>exact jE rfl);(case hn=>(simp only[aF,aN];omega));(case hB=>exact r);intro L w' B C;have D:=jd (And.intro B ((u.o.alloc _).grown C (fun k t=>(z.o k t).1)));clear B C);go_roundw;case rel=>exact⟨k+1,by omega,by go_num,by rw[<-J.o,e.o,<-G.o];exact D.o.1,D.o.2⟩
   case measure=>simp[intOf];omega
  .have f:k=s.size:=by omega
   have e:=jd (show(signs s).take k=signs s by rw[f,<-lN,xh]);clear hown h f;go_wp2_with fail;go_ret;exact⟨_,rfl,by have:=a.o;rw[e.o]at this⊢;exact this,u.o⟩
theorem Yd{n:Nat}(h:n<10):FM.dec (n:Int)=[48+(n:Int)]:=by unfold FM.dec;rw[av (by omega)]
theorem Ye{n:Nat}(h:10<=n):FM.dec (n:Int)=[48+((n/10:Nat):Int),48+((n%10:Nat):Int)]:=by unfold FM.dec;rw[ae (by omega)];simp
theorem Vi(n:Nat):(n:Int).tmod 10=((n%10:Nat):Int):=by rw[Int.tmod_eq_emod_of_nonneg (by omega)];omega
theorem Vj(n:Nat):(n:Int).tdiv 10=((n/10:Nat):Int):=by rw[Int.tdiv_eq_ediv_of_nonneg (by omega)];omega
theorem NU(n:Nat)(hn:n<=99)(w:World):Calls Tryz.prog 56 #[.int .i64 (n:Int),.int .i64 1] w (Du (fun w' v=>ay 21 1 Cc w.heap.size w' v (FM.dec n)) w):=by
 have z:=jd hn;go_enter Tryz.func56,Tryz.ntmps56;go_wp2_with fail;go_loopw[0,5](fun x v wr=>∃(m:Nat)(a:List Int),m<=99/\x=.int .i64 (m:Int)/\ay 21 1 Cc w.heap.size wr v a/\Ext w wr/\((a=[]/\m=n)\/(a=[48+((n%10:Nat):Int)]/\m=n/10)\/(a=FM.dec n/\m=0/\a.length=2)))(fun _ v _=>match v with|.slice _ l _=>3-l|_=>0);case atStart=>exact⟨n,[],hn,rfl,dO,aa w,.inl ⟨rfl,rfl⟩⟩
 case round=>
  obtain⟨m,a,hm,rfl,f,G,e⟩:=hrel;have I:=jd f;have J:=jd G;have HL:=jd f.lt;have K:=jd e;obtain⟨A,c,rfl,-⟩:=f.form;have Y:=Vi m;have Z:=Vj m;have B:=G.size;have hr:m%10<10:=Nat.mod_lt _ (by omega);have hol:a.length<=2:=by rcases e with⟨rfl,-⟩|⟨rfl,-⟩|⟨-,-,r⟩<;>simp_all
  generalize C:m%10=q at Y hr;generalize D:m/10=L at Z;have T:=jd C;have U:=jd D;have E:L<=99:=by omega
  by_cases i:0<m\/a.length<1
  .have H:=jd i;have M:0<m\/(m=0/\a.length=0):=by omega
   clear f G e C D i;rcases M with V|⟨V,X⟩
   .have N:(0:Int)<(m:Int):=by omega
    go_wp2_with(at_builtin;refine qW rfl _ _ rfl wr.heap.size _ _ (.slice A a.length c) [48+(q:Int)] a (zn wr [48+(q:Int)] (az _) (by simp)) rfl rfl ((I.o.dW (jh _) (fun _ _ _ O=>((aa wr).alloc _).heap O)).sl) ?hn ?hB ?_;(case hn=>(simp only[aF,aN];omega));(case hB=>simp);intro v' w' d h;have j:Ext w w':=(J.o.alloc _).grown h (fun k P=>(by simp[Value.ownBlock]at P;omega));generalize r:[48+(q:Int)]++a=F at d;have p:F.length=a.length+1:=(by rw[<-r,ai];simp only[aF,aN];omega);have Q:=jd p;clear p;have R:=jd (d.weak B);have s:=jd j;have t:=jd r;obtain⟨A2,c2,rfl,-⟩:=d.form;clear d h j r);go_roundw;case rel=>
     refine⟨L,F,E,by go_num,R.o,s.o,?_⟩;rw[<-t.o,<-T.o,<-U.o];rcases K.o with⟨d,h⟩|⟨d,h⟩|⟨d,h,h3⟩
     .right;left;rw[d,h];exact⟨rfl,rfl⟩
     .have u:=H.o;rw[d]at u;simp at u;right;right;rw[d,h,Ye (by omega)];exact⟨by have:=z.o;simp;omega,by have:=z.o;omega,rfl⟩
     .have u:=H.o;omega
    case measure=>have:=Q.o;simp;omega
   .have S:(a.length:Int)<1:=by omega
    obtain rfl:m=0:=V;obtain rfl:q=0:=by rw[<-T.o]
    obtain rfl:L=0:=by rw[<-U.o]
    go_wp2_with(at_builtin;refine qW rfl _ _ rfl wr.heap.size _ _ (.slice A a.length c) [48] a (zn wr [48] (az _) (by simp)) rfl rfl ((I.o.dW (jh _) (fun _ _ _ O=>((aa wr).alloc _).heap O)).sl) ?hn ?hB ?_;(case hn=>(simp only[aF,aN];omega));(case hB=>simp);intro v' w' d h;have j:Ext w w':=(J.o.alloc _).grown h (fun k P=>(by simp[Value.ownBlock]at P;omega));generalize r:[48]++a=F at d;have p:F.length=a.length+1:=(by rw[<-r,ai];simp only[aF,aN];omega);have Q:=jd p;clear p;have R:=jd (d.weak B);have s:=jd j;have t:=jd r;obtain⟨A2,c2,rfl,-⟩:=d.form;clear d h j r);go_roundw;case rel=>
     refine⟨0,F,E,by go_num,R.o,s.o,?_⟩;rw[<-t.o];rcases K.o with⟨d,h⟩|⟨d,h⟩|⟨d,h,h3⟩
     .right;left;rw[d,<-h];exact⟨rfl,rfl⟩
     .have u:=H.o;rw[d]at u;simp at u
     .have u:=H.o;omega
    case measure=>have:=Q.o;simp;omega
  .have N:¬(0:Int)<(m:Int):=by omega
   have S:¬(a.length:Int)<1:=by omega
   have HM:=jd (show FM.dec n=a by
    rcases K.o with⟨d,-⟩|⟨d,h⟩|⟨d,-,-⟩
    .rw[d]at i;simp at i
    .rw[d,Yd (by omega)];congr 2;omega
    .exact d.symm);clear f G e i;go_wp2_with fail;go_ret;exact⟨_,rfl,by rw[HM.o];exact I.o,J.o⟩
def iZ(m:Nat):List Int:=if m=0 then[]else if m<10 then[48+(m:Int)]else if m<100 then[48+((m/10:Nat):Int),48+((m%10:Nat):Int)]else[48+((m/100:Nat):Int),48+((m/10%10:Nat):Int),48+((m%10:Nat):Int)]
theorem VQ(n:Int):(SH.dec n).length<=3:=by
 unfold SH.dec;split
 .simp
 split<;>simp
theorem Hw{m:Nat}(e:0<m)(h:m<=999):iZ m=iZ (m/10)++[48+((m%10:Nat):Int)]:=by
 unfold iZ;rw[ae (show¬m=0 by omega)];by_cases a:m<10
 .rw[av a,av (by omega),Nat.mod_eq_of_lt a];rfl
 rw[ae a,ae (show¬m/10=0 by omega)];by_cases d:m<100
 .rw[av d,av (by omega)];rfl
 rw[ae d,ae (by omega),av (by omega),Nat.div_div_eq_div_mul];rfl
theorem VR{n:Nat}(h:n<=999):iZ (n/10)++[48+((n%10:Nat):Int)]=SH.dec n:=by
 rcases xm n with rfl|e
 .decide
 rw[<-Hw e h];unfold iZ SH.dec;rw[ae (show¬n=0 by omega)];by_cases a:n<10
 .rw[av a,av (by omega)]
 rw[ae a,ae (show¬(n:Int)<10 by omega)];by_cases d:n<100
 .rw[av d,av (by omega)];simp
 .rw[ae d,ae (by omega)];simp
theorem LF(n:Nat)(hn:n<=999)(w:World):Calls Tryz.prog 56 #[.int .i64 (n:Int),.int .i64 1] w (Du (fun w' v=>ay 21 1 Cc w.heap.size w' v (SH.dec n)) w):=by
 have U:=jd hn;go_enter Tryz.func56,Tryz.ntmps56;go_wp2_with fail;go_loopw[0,5](fun x v wr=>∃(m:Nat)(a:List Int),m<=999/\x=.int .i64 (m:Int)/\ay 21 1 Cc w.heap.size wr v a/\Ext w wr/\a.length<=3/\((a=[]/\m=n)\/(0<a.length/\iZ m++a=SH.dec n)))(fun _ v _=>match v with|.slice _ l _=>4-l|_=>0);case atStart=>exact⟨n,[],hn,rfl,dO,aa w,by simp,.inl ⟨rfl,rfl⟩⟩
 case round=>
  obtain⟨m,a,V,rfl,f,G,X,d⟩:=hrel;have H:=jd f;have I:=jd G;have Y:=jd d;obtain⟨A,c,rfl,-⟩:=f.form;have Z:=Vi m;have hd:=Vj m;have z:=G.size;have hr:m%10<10:=Nat.mod_lt _ (by omega);by_cases p:0<m\/a.length<1
  .have B:=jd (show iZ (m/10)++([48+((m%10:Nat):Int)]++a)=SH.dec n/\a.length<=2 by
    rcases d with⟨e,h⟩|⟨e,h⟩
    .rw[e,h,iU];exact⟨VR hn,by simp⟩
    .have h0:0<m:=by omega
     have Q:=Hw h0 V;rw[<-lL,<-Q];refine⟨h,?_⟩;have R:=congrArg List.length h;have h5:=(VQ (n:Int));rw[Q]at R;simp only[ai,aF,aN]at R;omega);have Cs:=B.o.2;have J:0<m\/(m=0/\a.length=0):=by omega
   generalize C:m%10=q at Z hr B;generalize D:m/10=K at hd B;have E:K<=999:=by omega
   have HQ:=jd C;have HD:=jd D;clear f G d C D p;rcases J with S|⟨S,T⟩
   .have L:(0:Int)<(m:Int):=by omega
    go_wp2_with(at_builtin;refine qW rfl _ _ rfl wr.heap.size _ _ (.slice A a.length c) [48+(q:Int)] a (zn wr [48+(q:Int)] (az _) (by simp)) rfl rfl ((H.o.dW (jh _) (fun _ _ _ M=>((aa wr).alloc _).heap M)).sl) ?hn ?hB ?_;(case hn=>(simp only[aF,aN];omega));(case hB=>simp);intro v' w' e h;have i:Ext w w':=(I.o.alloc _).grown h (fun k N=>(by simp[Value.ownBlock]at N;omega));generalize r:[48+(q:Int)]++a=F at e;have j:F.length=a.length+1:=(by rw[<-r,ai];simp only[aF,aN];omega);have s:=jd j;clear j;have O:=jd (e.weak z);have t:=jd i;have u:=jd r;obtain⟨A2,c2,rfl,-⟩:=e.form;clear e h i r);go_roundw;case rel=>exact⟨K,F,E,by go_num,O.o,t.o,by have:=s.o;omega,.inr ⟨by have:=s.o;omega,by rw[<-u.o];exact B.o.1⟩⟩
    case measure=>have:=s.o;simp;omega
   .have P:(a.length:Int)<1:=by omega
    obtain rfl:m=0:=S;obtain rfl:q=0:=by rw[<-HQ.o]
    obtain rfl:K=0:=by rw[<-HD.o]
    go_wp2_with(at_builtin;refine qW rfl _ _ rfl wr.heap.size _ _ (.slice A a.length c) [48] a (zn wr [48] (az _) (by simp)) rfl rfl ((H.o.dW (jh _) (fun _ _ _ M=>((aa wr).alloc _).heap M)).sl) ?hn ?hB ?_;(case hn=>(simp only[aF,aN];omega));(case hB=>simp);intro v' w' e h;have i:Ext w w':=(I.o.alloc _).grown h (fun k N=>(by simp[Value.ownBlock]at N;omega));generalize r:[48]++a=F at e;have j:F.length=a.length+1:=(by rw[<-r,ai];simp only[aF,aN];omega);have s:=jd j;clear j;have O:=jd (e.weak z);have t:=jd i;have u:=jd r;obtain⟨A2,c2,rfl,-⟩:=e.form;clear e h i r);go_roundw;case rel=>exact⟨0,F,E,by go_num,O.o,t.o,by have:=s.o;omega,.inr ⟨by have:=s.o;omega,by rw[<-u.o];exact B.o.1⟩⟩
    case measure=>have:=s.o;simp;omega
  .have L:¬(0:Int)<(m:Int):=by omega
   have P:¬(a.length:Int)<1:=by omega
   have HM:=jd (show SH.dec n=a by
    rcases Y.o with⟨e,-⟩|⟨e,h⟩
    .rw[e]at p;simp at p
    .rw[<-h,show m=0 by omega];rfl);clear f G d p;go_wp2_with fail;go_ret;exact⟨_,rfl,by rw[HM.o];exact H.o,I.o⟩
theorem qg(n:Int)(a:0<=n)(d:n<=999)(w:World):Calls Tryz.prog 56 #[.int .i64 n,.int .i64 1] w (Du (fun w' v=>ay 21 1 Cc w.heap.size w' v (SH.dec n)) w):=by obtain⟨m,rfl⟩:∃m:Nat,n=m:=⟨n.toNat,by omega⟩;exact LF m (by omega) w
end Go.Proofs.YtcogknbbbjnaiaaGreatDoor
