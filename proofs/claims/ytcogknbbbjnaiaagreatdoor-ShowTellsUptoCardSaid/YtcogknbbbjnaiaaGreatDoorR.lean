/- For ShowTells: what the texts XFdG XFdH XFdI XFdJ XFdK XFdL XFdM XFdN XShQ XRcs XRfA XRfB XRfC XShBa of wip/tpl say. -/
import Derived.Test.YtcogknbbbjnaiaaGreatDoorQ
import Derived.Deep.RegionLaw
set_option maxRecDepth 100000
set_option maxHeartbeats 8000000
namespace Go.Proofs.YtcogknbbbjnaiaaGreatDoor
section
open Go.RowKit
theorem zZ:(Tryz.prog.info? 109).map (fun i=>(i.zero,i.size,i.bytes))=some (some (.agg #[.int .i64 0,.int .i64 0,.int .i64 0,.slice none 0 0,.slice none 0 0]),5,72):=by kernel_rfl
def M4(T:Nat)(v:Value):Prop:=∀(ad:Addr)(n c:Nat),v=.slice (some ad) n c->ad.block<T
theorem M4.eU{T:Nat}:M4 T (.slice none 0 0):=by intro a n c h;cases h
theorem M4.mono{T a:Nat}{v:Value}(h:M4 T v)(d:T<=a):M4 a v:=fun f n c e=>mJ (h f n c e) d
def KLt(T:Nat)(w w':World):Prop:=∀(g:Nat)(cur:Array Value),g<T->w.heap[g]?=some (.cells cur 21 (0,0))->w'.heap[g]?=some (.cells cur 21 (0,0))
theorem aT.M5{B T:Nat}{w w':World}{v:Value}{xs:List Int}(h:aT 21 1 Cc B w v xs)(j:M4 T v)(k:KLt T w w'):aT 21 1 Cc B w' v xs:=by obtain⟨A,c,e,m,p,r,s⟩:=h;refine⟨A,c,e,m,p,r,fun f a=>?_⟩;obtain⟨g,o,d,i,t,u,z,C⟩:=s f a;refine⟨g,o,d,i,t,k g d ?_ u,z,C⟩;have:=j f xs.length c (by rw[e,a]);rw[i]at this;exact this
def M6(B T:Nat)(w:World)(cs:List Value)(f:FM.Form):Prop:=∃vt ve,cs=[.int .i64 f.kind,.int .i64 f.group,.int .i64 f.rX,vt,ve]/\(aT 21 1 Cc B w vt f.text/\M4 T vt)/\aT 21 1 Cc B w ve f.els/\M4 T ve
theorem M6.keep{B T:Nat}{w w':World}{cs:List Value}{f:FM.Form}(h:M6 B T w cs f)(a:KLt T w w'):M6 B T w' cs f:=by obtain⟨vt,i,j,⟨k,d⟩,m,e⟩:=h;exact⟨vt,i,j,⟨k.M5 d a,d⟩,m.M5 e a,e⟩
theorem M6.mono{B T a:Nat}{w:World}{cs:List Value}{f:FM.Form}(h:M6 B T w cs f)(d:T<=a):M6 B a w cs f:=by obtain⟨vt,e,i,⟨j,k⟩,m,p⟩:=h;exact⟨vt,e,i,⟨j,k.mono d⟩,m,p.mono d⟩
theorem M6.cf{B T:Nat}{w:World}{cs:List Value}{f:FM.Form}(h:M6 B T w cs f):CF B w cs f:=by obtain⟨vt,a,d,⟨e,j⟩,i,k⟩:=h;exact⟨vt,a,d,e,i⟩
theorem aT.blo{t sz B:Nat}{α:Type}{C:World->List Value->α->Prop}{w:World}{v:Value}{xs:List α}(h:aT t sz C B w v xs):M4 w.heap.size v:=by obtain⟨A,c,a,p,r,s,d⟩:=h;intro f n u e;rw[a]at e;injection e with i z D;obtain⟨g,o,j,k,E,m,_⟩:=d f i;rw[k];exact ag m
theorem CF.cft{B:Nat}{w:World}{cs:List Value}{f:FM.Form}(h:CF B w cs f):M6 B w.heap.size w cs f:=by obtain⟨vt,e,i,a,d⟩:=h;exact⟨vt,e,i,⟨a,a.blo⟩,d,d.blo⟩
theorem ay.pV{α:Type}{t sz B:Nat}{C f:World->List Value->α->Prop}{w w':World}{v:Value}{xs:List α}(h:ay t sz C B w v xs)(j:∀cs x,C w cs x->f w' cs x)(m:∀g a,v.ownBlock=some g->w.heap[g]?=some (.cells a t (0,0))->w'.heap[g]?=some (.cells a t (0,0))):ay t sz f B w' v xs:=by
 obtain⟨flat,d,p⟩:=h;refine⟨flat,⟨d.1,?_⟩,fun k x r=>?_⟩
 .rcases d.2 with s|⟨g,e,a,i,u,z,rest⟩
  .exact .inl s
  .exact .inr ⟨g,e,a,i,u,m g a (by rw[i];rfl) z,rest⟩
 .obtain⟨cs,A,D⟩:=p k x r;exact⟨cs,j _ _ A,D⟩
section
variable{w wr w':World}{xb T:Nat}{vl vt II Mc:Value}{fs fs':List FM.Form}{tx tx':List Int}
end
section
variable{α:Type}{P:Program}{w:World}{ops:Array Oper}{rest:List Oper}{o:Oper}{a:Act}{Q:Exit->Act->World->Prop}
end
section
variable{w wr w':World}{xb T:Nat}{vl vt II Mc v':Value}{fs fs':List FM.Form}{tx tx':List Int}
theorem XF{w:World}{g h o:Nat}{u:Value}(a:g≠h):(w.setCell ⟨h,o,none⟩ u).heap[g]?=w.heap[g]?:=Below.heap_setCell w ⟨h,o,none⟩ u g a
abbrev eu:=@XF
end
namespace FM
end FM
def kr(s:List Int)(k:Nat)(fs:List FM.Form)(tx:List Int):Option (List FM.Form×Nat):=FM.scan (s.length-k+1) (s.drop k) fs tx k
theorem xS{s:List Int}{k n:Nat}{fs:List FM.Form}{tx:List Int}(h:s.length-k<n):FM.scan n (s.drop k) fs tx k=kr s k fs tx:=by
 refine FM.qY _ _ _ _ _ _ ?_ ?_
 .rw[jU];exact h
 .rw[jU];omega
section
variable{s:List Int}{k k':Nat}{fs:List FM.Form}{tx:List Int}{f:FM.Form}
theorem aab(h:s.length<=k):kr s k fs tx=none:=by unfold kr;rw[jg h];rfl
theorem Un(h:k<s.length)(a:s[k]=47):kr s k fs tx=some (FM.nX fs tx,k):=by unfold kr;rw[ed h,a,FM.scan,av rfl]
theorem XG(h:k<s.length)(j:s[k]=36)(d:jD s k=some (f,k')):kr s k fs tx=kr s k' (FM.nX fs tx++[f]) []:=by
 unfold jD at d;rw[Br]at d;obtain⟨⟨m,c⟩,p,a⟩:=d;injection a with a i;simp only at a i;subst a i;have e:kr s k fs tx=FM.scan (s.length-k) ((s.drop (k+1)).drop c) (FM.nX fs tx++[m]) [] (k+1+c):=by unfold kr;rw[ed h,j,FM.Ri p]
 rw[e,List.drop_drop];exact xS (by omega)
theorem aac(h:k+1<s.length)(a:s[k]=92)(d:s[k+1]∈FM.outer):kr s k fs tx=kr s (k+2) fs (tx++[s[k+1]]):=by
 have e:kr s k fs tx=FM.scan (s.length-k) (s.drop (k+2)) fs (tx++[s[k+1]]) (k+2):=by unfold kr;rw[ed (by omega:k<s.length),ed h,a,FM.Uo d]
 rw[e];exact xS (by omega)
theorem yR(h:k<s.length)(m:s[k]≠47)(p:s[k]=36->jD s k=none)(r:¬(s[k]=92/\∃i:k+1<s.length,s[k+1]∈FM.outer)):kr s k fs tx=kr s (k+1) fs (tx++[s[k]]):=by
 have e:kr s k fs tx=FM.scan (s.length-k) (s.drop (k+1)) fs (tx++[s[k]]) (k+1):=by
  unfold kr;rw[ed h,FM.M7 m]
  .intro j;have:=p j;unfold jD at this;simpa using this
  .rintro⟨j,d,u,a,t⟩;refine r ⟨j,?_⟩;have i:k+1<s.length:=by have:=congrArg List.length a;rw[jU]at this;simp at this;omega
   refine⟨i,?_⟩;rw[ed i]at a;injection a with a _;rw[a];exact t
 rw[e];exact xS (by omega)
theorem Uq(d:s.all RX.aQ=true)(h:jD s k=some (f,k'))(j:k<s.length):k+2<=k'/\k'<=s.length:=by unfold jD at h;rw[Br]at h;obtain⟨⟨m,c⟩,e,a⟩:=h;injection a with a i;have:=FM.C8 e (FM.oL d _);rw[jU]at this;simp only at i;omega
end
def uD(s:List Int)(a:Int):Option (List FM.Form×Nat):=if 0<=a/\a<=s.length/\s.all RX.aQ=true then kr s a.toNat [] []else none
def abC(R:Option (List FM.Form×Nat))(w:World)(e:Ending)(w':World):Prop:=Ext w w'/\((∃l j A c,R=some (l,j)/\e=.returned (.tuple #[.slice A l.length c,.int .i64 (j:Int),.bool true])/\aT 109 5 (CF w.heap.size) w.heap.size w' (.slice A l.length c) l)\/(R=none/\e=.returned (.tuple #[.slice none 0 0,.int .i64 0,.bool false])))
theorem CF.gM{B:Nat}{w w':World}{cs:List Value}{f:FM.Form}(h:CF B w cs f)(a:aV [21] w w'):CF B w' cs f:=by obtain⟨vt,d,e,i,j⟩:=h;exact⟨vt,d,e,i.keep (dQ []) (a.sub (by simp)) a,j.keep (dQ []) (a.sub (by simp)) a⟩
theorem C9{α:Type}{P:Program}{w:World}{f:Array Oper}{rest:List Oper}{o:Oper}{a:Act}{Q:Exit->Act->World->Prop}{t e sz bytes:Nat}{z:Value}(L:P.underlying t=some (.slice e))(M:(P.info? e).map (fun i=>(i.zero,i.size,i.bytes))=some (some z,sz,bytes))(m:z.cells.size=sz)(p:0<sz)(r:bytes<=100){T:List TypeId}{C:World->List Value->α->Prop}(N:fO T C)(O:e∉T)(A:o.guard=none)(s x:Operand)(R:o.op=.call {callee:=.builtin .append,args:=#[s,x],argTypes:=#[t,t]})(B:Nat)(v:Value)(xs:List α)(y:α)(cs:List Value)(tb:TypeId)(k:ay e sz C B w v xs)(S:C w cs y)(D:cs.length=sz)(U:∀u∈cs,u.oneCell'=true)(V:a.eval s=v)(nb:Nat)(X:a.eval x=.slice (some ⟨nb,0,none⟩) 1 1)(E:nb=w.heap.size)(hn:xs.length<=1000000000)(hB:B<=w.heap.size)(h:∀g d w',ay e sz C B w' (.slice (some ⟨g,0,none⟩) (xs.length+1) d) (xs++[y])->(w.alloc (.cells cs.toArray tb)).grownBy w' v.ownBlock->wpList P f Q rest (a.put o.dst (.slice (some ⟨g,0,none⟩) (xs.length+1) d)) w'):wpList P f Q (o::rest) a (w.alloc (.cells cs.toArray tb)):=by subst E;obtain⟨Y,hi,F,G,H⟩:=fD M;obtain⟨flat,I,Z⟩:=k;refine wpList_append_lies _ A s x t R B e Y z sz bytes L hi F G H m p v xs.length flat V (World.ownsRow.alloc I _) ⟨w.heap.size,0,none⟩ 1 1 cs X (by omega) (fun j u hu=>jB w cs tb j u hu) U (by decide) (by unfold maxLen;omega) (aG (yC (show xs.length+1<=1000000001 by omega) r) (by omega)) (by simp;omega) _ rfl ?_;intro g d w' h3 K _ _;refine h g d w' (ay.snoc Z I.1 N ?_ S D h3) K;refine(au ((aa w).alloc _)).trans (kF K (fun g hg=>?_));obtain⟨J,hh⟩:=jw I g hg;exact⟨J,e,((aa w).alloc _).heap hh,O⟩
theorem Ur(k g c:Int)(t e:List Int)(vt K:Value)(w:World)(Q:ib w vt t)(R:ib w K e):Calls Tryz.prog 87 #[.agg #[.int .i64 k,.int .i64 g,.int .i64 c,vt,K]] w (qL (.bool (FM.dJ ⟨k,g,c,t,e⟩)) w):=by
 have X:=jd (fun W(L:Ext w W)=>yP t vt W (Q.ext L));have Y:=jd (fun W(L:Ext w W)=>yP e K W (R.ext L));obtain⟨At,ct,rfl,Z,hct,-⟩:=Q;obtain⟨Ae,ce,rfl,hle,hce,-⟩:=R;rcases d:t.all RX.aQ with _|_;focus
  have f:=rfl (a:=e.all RX.aQ);have p:=jd (show FM.dJ ⟨k,g,c,t,e⟩=false by simp[FM.dJ,d])
 rotate_left;focus
  rcases f:e.all RX.aQ with _|_;focus
   have p:=jd (show FM.dJ ⟨k,g,c,t,e⟩=false by simp[FM.dJ,d,f])
  rotate_left;focus
   rcases S:decide (g<0)with _|_;rotate_left;focus
    have M:=uz S;have p:=jd (show FM.dJ ⟨k,g,c,t,e⟩=false by simp[FM.dJ,d,f];omega)
   rotate_left;focus
    have M:=of_decide_eq_false S;rcases T:decide (99<g)with _|_;rotate_left;focus
     have N:=uz T;have p:=jd (show FM.dJ ⟨k,g,c,t,e⟩=false by simp[FM.dJ,d,f];omega)
    rotate_left;focus
     have N:=of_decide_eq_false T;rcases U:decide (c<0)with _|_;rotate_left;focus
      have O:=uz U;have p:=jd (show FM.dJ ⟨k,g,c,t,e⟩=false by simp[FM.dJ,d,f];omega)
     rotate_left;focus
      have O:=of_decide_eq_false U;rcases V:decide (5<c)with _|_;rotate_left;focus
       have P:=uz V;have p:=jd (show FM.dJ ⟨k,g,c,t,e⟩=false by simp[FM.dJ,d,f];omega)
      rotate_left;focus
       have P:=of_decide_eq_false V;have j:0<=g:=by omega
       have u:g<=99:=by omega
       have m:0<=c:=by omega
       have v:c<=5:=by omega
       rcases A:(k==0)with _|_;rotate_left;focus
        obtain rfl:k=0:=by simpa using A
        by_cases h:t=[];focus
         have B:decide ((0:Int)<(t.length:Int))=false:=by simp[h]
         have C:decide (0<t.length)=false:=by simp[h]
         have p:=jd (show FM.dJ ⟨0,g,c,t,e⟩=false by simp[FM.dJ,f,j,u,m,v,h]);clear h
        rotate_left;focus
         have B:decide ((0:Int)<(t.length:Int))=true:=by cases t with|nil=>exact absurd rfl h|cons a b=>simp
         have C:decide (0<t.length)=true:=by cases t with|nil=>exact absurd rfl h|cons a b=>simp
         by_cases i:e=[];focus
          have D:decide ((0:Int)<(e.length:Int))=false:=by simp[i]
          have E:decide (0<e.length)=false:=by simp[i]
          rcases F:(g==0)with _|_;focus
           have z:¬g=0:=by simpa using F
           have p:=jd (show FM.dJ ⟨0,g,c,t,e⟩=false by simp[FM.dJ,d,j,u,m,v,i,z]);clear h i z
          rotate_left;focus
           have z:g=0:=by simpa using F
           rcases r:(c==0)with _|_;focus
            have s:¬c=0:=by simpa using r
            have p:=jd (show FM.dJ ⟨0,g,c,t,e⟩=false by simp[FM.dJ,d,m,v,i,z,s]);clear h i z s
           rotate_left;focus
            have s:c=0:=by simpa using r
            have p:=jd (show FM.dJ ⟨0,g,c,t,e⟩=true by simp[FM.dJ,d,h,i,z,s]);clear h i z s
           rotate_left
          rotate_left 2
         rotate_left 3;focus
          have D:decide ((0:Int)<(e.length:Int))=true:=by cases e with|nil=>exact absurd rfl i|cons a b=>simp
          have E:decide (0<e.length)=true:=by cases e with|nil=>exact absurd rfl i|cons a b=>simp
          have p:=jd (show FM.dJ ⟨0,g,c,t,e⟩=false by simp[FM.dJ,d,f,j,u,m,v,h,i]);clear h i
         rotate_left
        rotate_left 4
       rotate_left 5;focus
        rcases G:(k==1)with _|_;rotate_left;focus
         obtain rfl:k=1:=by simpa using G
         by_cases h:t=[];focus
          have B:decide ((0:Int)<(t.length:Int))=false:=by simp[h]
          have C:decide (0<t.length)=false:=by simp[h]
          by_cases i:e=[];focus
           have D:decide ((0:Int)<(e.length:Int))=false:=by simp[i]
           have E:decide (0<e.length)=false:=by simp[i]
           have p:=jd (show FM.dJ ⟨1,g,c,t,e⟩=true by simp[FM.dJ,j,u,m,v,h,i]);clear h i
          rotate_left;focus
           have D:decide ((0:Int)<(e.length:Int))=true:=by cases e with|nil=>exact absurd rfl i|cons a b=>simp
           have E:decide (0<e.length)=true:=by cases e with|nil=>exact absurd rfl i|cons a b=>simp
           have p:=jd (show FM.dJ ⟨1,g,c,t,e⟩=false by simp[FM.dJ,f,j,u,m,v,h,i]);clear h i
          rotate_left
         rotate_left 2;focus
          have B:decide ((0:Int)<(t.length:Int))=true:=by cases t with|nil=>exact absurd rfl h|cons a b=>simp
          have C:decide (0<t.length)=true:=by cases t with|nil=>exact absurd rfl h|cons a b=>simp
          have p:=jd (show FM.dJ ⟨1,g,c,t,e⟩=false by simp[FM.dJ,d,f,j,u,m,v,h]);clear h
         rotate_left
        rotate_left 3;focus
         rcases H:(k==2)with _|_;rotate_left;focus
          obtain rfl:k=2:=by simpa using H
          by_cases i:e=[];focus
           have D:decide ((0:Int)<(e.length:Int))=false:=by simp[i]
           have E:decide (0<e.length)=false:=by simp[i]
           rcases r:(c==0)with _|_;focus
            have s:¬c=0:=by simpa using r
            have p:=jd (show FM.dJ ⟨2,g,c,t,e⟩=false by simp[FM.dJ,d,j,u,m,v,i,s]);clear i s
           rotate_left;focus
            have s:c=0:=by simpa using r
            have p:=jd (show FM.dJ ⟨2,g,c,t,e⟩=true by simp[FM.dJ,d,j,u,i,s]);clear i s
           rotate_left
          rotate_left 2;focus
           have D:decide ((0:Int)<(e.length:Int))=true:=by cases e with|nil=>exact absurd rfl i|cons a b=>simp
           have E:decide (0<e.length)=true:=by cases e with|nil=>exact absurd rfl i|cons a b=>simp
           have p:=jd (show FM.dJ ⟨2,g,c,t,e⟩=false by simp[FM.dJ,d,f,j,u,m,v,i]);clear i
          rotate_left
         rotate_left 3;focus
          rcases I:(k==3)with _|_;rotate_left;focus
           obtain rfl:k=3:=by simpa using I
           by_cases h:t=[];focus
            have B:decide ((0:Int)<(t.length:Int))=false:=by simp[h]
            have C:decide (0<t.length)=false:=by simp[h]
            rcases r:(c==0)with _|_;focus
             have s:¬c=0:=by simpa using r
             have p:=jd (show FM.dJ ⟨3,g,c,t,e⟩=false by simp[FM.dJ,f,j,u,m,v,h,s]);clear h s
            rotate_left;focus
             have s:c=0:=by simpa using r
             have p:=jd (show FM.dJ ⟨3,g,c,t,e⟩=true by simp[FM.dJ,f,j,u,h,s]);clear h s
            rotate_left
           rotate_left 2;focus
            have B:decide ((0:Int)<(t.length:Int))=true:=by cases t with|nil=>exact absurd rfl h|cons a b=>simp
            have C:decide (0<t.length)=true:=by cases t with|nil=>exact absurd rfl h|cons a b=>simp
            have p:=jd (show FM.dJ ⟨3,g,c,t,e⟩=false by simp[FM.dJ,d,f,j,u,m,v,h]);clear h
           rotate_left
          rotate_left 3;focus
           rcases J:(k==4)with _|_;rotate_left;focus
            obtain rfl:k=4:=by simpa using J
            rcases r:(c==0)with _|_;focus
             have s:¬c=0:=by simpa using r
             have p:=jd (show FM.dJ ⟨4,g,c,t,e⟩=false by simp[FM.dJ,d,f,j,u,m,v,s]);clear s
            rotate_left;focus
             have s:c=0:=by simpa using r
             have p:=jd (show FM.dJ ⟨4,g,c,t,e⟩=true by simp[FM.dJ,d,f,j,u,s]);clear s
            rotate_left
           rotate_left 2;focus
            have k0:¬k=0:=by simpa using A
            have k1:¬k=1:=by simpa using G
            have k2:¬k=2:=by simpa using H
            have k3:¬k=3:=by simpa using I
            have k4:¬k=4:=by simpa using J
            have p:=jd (show FM.dJ ⟨k,g,c,t,e⟩=false by simp[FM.dJ,d,f,j,u,m,v,k0,k1,k2,k3,k4])
 all_goals
  go_enter Tryz.func87,Tryz.ntmps87;go_wp2_with fail;go_quiet(fail);go_wp2_with(first|(go_at_call 61;((with_reducible refine(X.o _ ?hw).mono ?_);(case hw=>(focus(repeat(first|exact aa _|apply ah|apply af))));rw[d];rintro e' w'⟨rfl,n1,rfl⟩))|(go_at_call 61;((with_reducible refine(Y.o _ ?hw).mono ?_);(case hw=>(focus(repeat(first|exact aa _|apply ah|apply af))));rw[f];rintro e' w'⟨rfl,n2,rfl⟩)));go_ret;exact⟨aH (by rw[p.o];rfl),by(focus(repeat(first|exact aa _|apply ah|apply af)))⟩
theorem DX(s:ByteArray)(h:∀k(r:k<s.size),s[k].toNat<128):∀(n i:Nat)(acc:Array Value),s.size-i<=n->Conv.runesFrom s n i acc=acc++(((signs s).drop i).map (Value.int .i32)).toArray
|0,i,acc,d=>by rw[jg (by rw[lN];omega)];simp[Conv.runesFrom]
|n+1,i,acc,d=>by
 unfold Conv.runesFrom;split
 .rename_i hi;have f:Utf8.decode s i=(s[i].toNat,1):=by
   have j:=h i hi;have m:(s.get! (i+0)).toNat=s[i].toNat:=by have a:i<s.data.size:=hi;show(s.data[i+0]!).toNat=(s.data[i]'a).toNat;rw[fB,getElem!_pos s.data i a]
   unfold Utf8.decode;simp only[m];rw[av j]
  rw[f];simp only;rw[DX s h n (i+1) _ (by omega)];have p:i<(signs s).length:=by rw[lN];exact hi
  rw[ed p];have e:(signs s)[i]=(s[i].toNat:Int):=by simp[signs];rfl
  rw[e];simp
 .rw[jg (by rw[lN];omega)];simp
theorem uF(s:ByteArray)(h:∀x∈signs s,x<128):Conv.runesFrom s s.size 0 #[]=((signs s).map (Value.int .i32)).toArray:=by
 rw[DX s (fun k a=>?_) _ _ _ (Nat.sub_le _ _)]
 .simp
 .have d:k<(signs s).length:=by rw[lN];exact a
  have e:(signs s)[k]=(s[k].toNat:Int):=by simp[signs];rfl
  have:=h _ (bK d);rw[e]at this;omega
def XH(l:List Int)(w:World)(e:Ending)(w':World):Prop:=∃b:ByteArray,e=.returned (.string b)/\signs b=l/\w=w'
theorem Rj:∀g,g<10->signs (ByteArray.extract {data:=#[48,49,50,51,52,53,54,55,56,57,97,98,99,100,101,102,103,104,105,106,107,108,109,110,111,112,113,114,115,116,117,118,119,120,121,122]} g (g+1))=FM.dec g:=by decide+kernel
def adv:ByteArray:={data:=#[48,48,48,49,48,50,48,51,48,52,48,53,48,54,48,55,48,56,48,57,49,48,49,49,49,50,49,51,49,52,49,53,49,54,49,55,49,56,49,57,50,48,50,49,50,50,50,51,50,52,50,53,50,54,50,55,50,56,50,57,51,48,51,49,51,50,51,51,51,52,51,53,51,54,51,55,51,56,51,57,52,48,52,49,52,50,52,51,52,52,52,53,52,54,52,55,52,56,52,57,53,48,53,49,53,50,53,51,53,52,53,53,53,54,53,55,53,56,53,57,54,48,54,49,54,50,54,51,54,52,54,53,54,54,54,55,54,56,54,57,55,48,55,49,55,50,55,51,55,52,55,53,55,54,55,55,55,56,55,57,56,48,56,49,56,50,56,51,56,52,56,53,56,54,56,55,56,56,56,57,57,48,57,49,57,50,57,51,57,52,57,53,57,54,57,55,57,56,57,57]}
theorem Rk:∀g,g<100->10<=g->signs (adv.extract (g*2) (g*2+2))=FM.dec g:=by decide+kernel
theorem Rl(g:Nat)(d:g<100)(w:World):Calls Tryz.prog 109 #[.int .i64 (g:Int)] w (XH (FM.dec g) w):=by
 by_cases h:g<10
 .have a:=jd (Rj g h);have e:(g:Int)<10:=by omega
  go_enter Tryz.func109,Tryz.ntmps109;go_wp2_with fail;go_ret;exact⟨_,rfl,a.o,rfl⟩
 .have a:=jd (Rk g d (by omega));have e:¬(g:Int)<10:=by omega
  have f:IntKind.i64.wrap ((g:Int)*2)=(g:Int)*2:=jA _ (by omega);go_enter Tryz.func109,Tryz.ntmps109;go_wp2_with fail;go_ret;exact⟨_,rfl,a.o,rfl⟩
theorem F9(g:Nat)(d:g<100)(w:World):Calls Tryz.prog 98 #[.int .i64 (g:Int),.int .i64 10] w (XH (FM.dec g) w):=by
 have f:=jd (Rl g d w);have i:decide ((0:Int)<=(g:Int))=true:=by simp
 have j:decide ((g:Int)<100)=true:=by simp;omega
 go_enter Tryz.func98,Tryz.ntmps98;go_wp2_with fail;refine f.o.mono ?_;rintro e k⟨b,rfl,a,rfl⟩;have h:=jd a;clear a;go_wp2_with fail;go_ret;exact⟨_,rfl,h.o,rfl⟩
theorem Rm(g:Nat)(d:g<100)(w:World):Calls Tryz.prog 76 #[.int .i64 (g:Int)] w (XH (FM.dec g) w):=by have f:=jd (F9 g d w);go_enter Tryz.func76,Tryz.ntmps76;go_wp2_with fail;refine f.o.mono ?_;rintro e i⟨b,rfl,a,rfl⟩;have h:=jd a;clear a;go_wp2_with fail;go_ret;exact⟨_,rfl,h.o,rfl⟩
theorem Uw(g:Nat)(d:g<100)(w:World):Calls Tryz.prog 52 #[.int .i64 (g:Int)] w (XH (FM.dec g) w):=by have f:=jd (Rm g d w);go_enter Tryz.func52,Tryz.ntmps52;go_wp2_with fail;refine f.o.mono ?_;rintro e i⟨b,rfl,a,rfl⟩;have h:=jd a;clear a;go_wp2_with fail;go_ret;exact⟨_,rfl,h.o,rfl⟩
def GrP(w0:World)(out:List Int)(wr:World)(e:Ending)(w':World):Prop:=∃A c,e=.returned (.slice A out.length c)/\iT w0 (.slice A out.length c) out w'/\aV [109] wr w'
theorem iT.Ko{w wr w':World}{v:Value}{a:List Int}(h:iT w v a wr)(e:wr.grownBy w' v.ownBlock):aV [109] wr w':=kF e (fun g f=>by obtain⟨d,i⟩:=h.own.type g f;exact⟨d,_,i,by decide⟩)
theorem xU{m s:List Int}{k:Nat}(h:k<s.length):FM.guard m (s.take (k+1))=FM.guard m (s.take k)++(if s[k]∈m then[92,s[k]]else[s[k]]):=by unfold FM.guard;rw[kE h,jS,qK];congr 1;simp
theorem BF(m:List Int):∀s:List Int,(FM.guard m s).length<=2*s.length
|[]=>by simp[FM.guard]
|c::s=>by have:=BF m s;rw[FM.GH];simp only[aF];split<;>omega
abbrev kK:=@BF
theorem mR(m:List Int)(bs:ByteArray)(P:∀(c:Int)(w:World),Calls Tryz.prog 130 #[.int .i32 c,.string bs] w (qL (.bool (decide (c∈m))) w))(w0 wr:World)(v Q:Value)(a s:List Int)(h:iT w0 v a wr)(R:ib w0 Q s)(hb:a.length+2*s.length<=35184372088000):Calls Tryz.prog 113 #[v,Q,.string bs] wr (GrP w0 (a++FM.guard m s) wr):=by
 have H:=jd R;have Y:=jd h;have S:=jd P;obtain⟨A,ca,rfl,Z,hcx,-⟩:=R;obtain⟨Ao,co,rfl,-⟩:=h.own.form;clear h P;go_enter Tryz.func113,Tryz.ntmps113;go_wp2_with fail;go_loopw[0,11](fun v i wk=>∃k:Nat,k<=s.length/\i=.int .i64 (k:Int)/\iT w0 v (a++FM.guard m (s.take k)) wk/\aV [109] wr wk)(fun _ i _=>s.length-(intOf i).toNat);case atStart=>exact⟨0,aL _,rfl,by simpa[FM.guard]using Y.o,aV.refl _ _⟩
 case round=>
  obtain⟨k,hk,rfl,u,G⟩:=hrel;have d:=jd u;have j:=jd G;have r:(a++FM.guard m (s.take k)).length<=35184372088000:=by have:=kK m (s.take k);rw[kg]at this;rw[ai];omega
  obtain⟨Ao,co,rfl,-⟩:=u.own.form;have C:=u.size;clear u G;by_cases I:k<s.length
  .obtain⟨b,o,rfl,T⟩:=(H.o.ext d.o.ext).at_ I;have p:=xU (m:=m) I;by_cases F:s[k]∈m
   .have J:=jd (show decide (s[k]∈m)=true from bJ F);rw[av F]at p;have D:=jd (show a++FM.guard m (s.take (k+1))=((a++FM.guard m (s.take k))++[92])++[s[k]]by rw[p];simp);clear F p;generalize s[k]=x at T J D;generalize a++FM.guard m (s.take k)=e at d D r⊢;have U:True:=trivial;go_wp2_with(first|(go_at_call 130;refine(S.o x _).mono ?_;rw[J.o];rintro e' K⟨rfl,E⟩;have d:=jd (iT.call d.o E);have j:=jd (j.o.trans (au E));have C:=d.o.size;clear E)|(at_builtin;have _t:=U;refine eX rfl _ _ rfl w0.heap.size _ e [92] d.o.own.jC rfl ⟨K.heap.size,0,none⟩ 1 1 rfl rfl (jE rfl) ?hn ?hB ?_;(case hn=>(simp only[aF,aN];omega));(case hB=>(simp;omega));intro v' V f t;generalize z:e++[92]=L at f;have HL:=jd z;have hl2:L.length<=e.length+1:=(by rw[<-z,ai];exact az _);obtain⟨A2,c2,rfl,-⟩:=f.form;have j:=jd ((j.o.trans (au ((aa K).alloc _))).trans (iT.Ko (iW d.o) t));have B:=jd (iT.app (iW d.o) f t);have C:=B.o.size;clear f t z U _t)|(at_builtin;refine eX rfl _ _ rfl w0.heap.size _ L [x] B.o.own.jC rfl ⟨V.heap.size,0,none⟩ 1 1 rfl rfl (jE rfl) ?hn ?hB ?_;(case hn=>(simp only[aF,aN];omega));(case hB=>(simp;omega));intro v3 w3 f t;generalize z:L++[x]=M at f;have N:=jd z;obtain⟨A3,c3,rfl,-⟩:=f.form;have j:=jd ((j.o.trans (au ((aa V).alloc _))).trans (iT.Ko (iW B.o) t));have O:=jd (iT.app (iW B.o) f t);clear f t z));go_roundw;case rel=>exact⟨k+1,by omega,by go_num,by rw[D.o,HL.o,N.o];exact O.o,j.o⟩
    case measure=>simp[intOf];omega
   .have J:=jd (show decide (s[k]∈m)=false from bR F);rw[ae F]at p;have D:=jd (show a++FM.guard m (s.take (k+1))=(a++FM.guard m (s.take k))++[s[k]]by rw[p];simp);clear F p;generalize s[k]=x at T J D;generalize a++FM.guard m (s.take k)=e at d D r⊢;go_wp2_with(first|(go_at_call 130;refine(S.o x _).mono ?_;rw[J.o];rintro e' K⟨rfl,E⟩;have d:=jd (iT.call d.o E);have j:=jd (j.o.trans (au E));have C:=d.o.size;clear E)|(at_builtin;refine eX rfl _ _ rfl w0.heap.size _ e [x] d.o.own.jC rfl ⟨K.heap.size,0,none⟩ 1 1 rfl rfl (jE rfl) ?hn ?hB ?_;(case hn=>(simp only[aF,aN];omega));(case hB=>(simp;omega));intro v3 w3 f t;generalize z:e++[x]=M at f;have N:=jd z;obtain⟨A3,c3,rfl,-⟩:=f.form;have j:=jd ((j.o.trans (au ((aa K).alloc _))).trans (iT.Ko (iW d.o) t));have O:=jd (iT.app (iW d.o) f t);clear f t z));go_roundw;case rel=>exact⟨k+1,by omega,by go_num,by rw[D.o,N.o];exact O.o,j.o⟩
    case measure=>simp[intOf];omega
  .have X:=jd (show a++FM.guard m (s.take k)=a++FM.guard m s by rw[pU (by omega)]);generalize a++FM.guard m (s.take k)=e at d X r⊢;go_wp2_with fail;go_ret;rw[<-X.o];exact⟨_,_,rfl,d.o,j.o⟩
theorem kY{w:World}{f:Array Oper}{o:Oper}{a:Act}{K:Act->World->Prop}{Q:Exit->Act->World->Prop}{E:Prop}(i:o.guard=none)(s x:Operand)(C:o.op=.call {callee:=.builtin .append,args:=#[s,x],argTypes:=#[24,24]})(B:Nat)(v:Value)(xs ys:List Int)(e:ay 21 1 Cc B w v xs)(D:a.eval s=v)(k:Addr)(m c:Nat)(F:a.eval x=.slice (some k) m c)(G:m=ys.length)(p:0<m)(H:∀j y,ys[j]?=some y->w.cell? (k.add j)=some (.int .i32 y))(N:xs.length+ys.length<=35184372088832)(I:B<=w.heap.size)(h:∀g d w',ay 21 1 Cc B w' (.slice (some ⟨g,0,none⟩) (xs.length+m) d) (xs++ys)->w.grownBy w' v.ownBlock->K (a.put o.dst (.slice (some ⟨g,0,none⟩) (xs.length+m) d)) w'):if Region.wanted o (yielded f a.tmps)=true then Oper.wp Tryz.prog o a w K Q else E:=by
 subst G;obtain⟨J,hi,r,t,z⟩:=fD gQ;refine step_append_lies _ i s x _ C B 21 J (.int .i32 0) 1 4 eT hi r t z rfl (by decide) v xs.length _ D e.dM k ys.length c (ys.map (Value.int .i32)) F (by simp) (eG H) ?_ p (by unfold maxLen;omega) (by omega) I _ rfl ?_
 .intro u A;simp at A;obtain⟨y,_,rfl⟩:=A;rfl
 .intro g d w' L M _ _;refine h g d w' (mI ?_) M;rw[jS,ai];exact L
theorem aae{W:World}{ys:List Int}{g:Nat}(h:W.heap[g]?=some (.cells (ys.map (Value.int .i32)).toArray 21 (0,0))):∀j y,ys[j]?=some y->W.cell? ((⟨g,0,none⟩:Addr).add j)=some (.int .i32 y):=by
 intro j y a;have e:(⟨g,0,none⟩:Addr).add j=⟨g,j,none⟩:=by unfold Addr.add;split<;>simp_all
 rw[e,cy j h];simp[a]
abbrev bI:=@aae
structure Ga(w0 ws:World)(nb:Nat)(cs:List Value)(v:Value)(out:List Int)(wr:World):Prop where
 bX:iT w0 v out wr
 box:wr.heap[nb]?=some (.cells cs.toArray 109 (0,0))
 keep:aV [109] ws wr
section
variable{w0 ws wr w':World}{nb:Nat}{cs:List Value}{v v':Value}{out out':List Int}
theorem Ga.aj(h:Ga w0 ws nb cs v out wr)(a:Ext wr w'):Ga w0 ws nb cs v out w':=⟨h.bX.call a,a.heap h.box,h.keep.trans (au a)⟩
theorem Ga.app(h:Ga w0 ws nb cs v out wr)(d:ay 21 1 Cc w0.heap.size w' v' out')(a:wr.grownBy w' v.ownBlock):Ga w0 ws nb cs v' out' w':=⟨h.bX.app d a,h.bX.Ko a nb _ _ (by simp) h.box,h.keep.trans (h.bX.Ko a)⟩
theorem Ga.mP(h:Ga w0 ws nb cs v out wr)(d:iT w0 v' out' w')(a:aV [109] wr w'):Ga w0 ws nb cs v' out' w':=⟨d,a nb _ _ (by simp) h.box,h.keep.trans a⟩
theorem Ga.c(h:Ga w0 ws nb cs v out wr)(i:Nat)(u:Value)(a:cs[i]?=some u):wr.cell? ⟨nb,i,none⟩=some u:=(cy i h.box).trans (by simpa using a)
end
theorem Uy(w0 wr:World)(v vt m:Value)(a:List Int)(f:FM.Form)(h:iT w0 v a wr)(d:ib w0 vt f.text)(p:ib w0 m f.els)(i:f.kind=0)(r:a.length+2*f.text.length<=35184372088000):Calls Tryz.prog 99 #[v,.agg #[.int .i64 f.kind,.int .i64 f.group,.int .i64 f.rX,vt,m]] wr (GrP w0 (a++FM.put f) wr):=by have s:=jd (show FM.put f=FM.guard FM.outer f.text by unfold FM.put;rw[av i]);obtain⟨k,g,c,t,e⟩:=f;dsimp only at d p i r s⊢;subst i;have A:=jd (fun W(B:iT w0 v a W)=>mR FM.outer _ Kq w0 W v vt a t B d r);have C:=jd h;obtain⟨At,E,rfl,-⟩:=d;obtain⟨F,G,rfl,-⟩:=p;obtain⟨H,I,rfl,-⟩:=h.own.form;clear h;go_enter Tryz.func99,Tryz.ntmps99;go_wp2_with(go_at_call 113;refine(A.o _ (iW C.o)).mono ?_;rintro J K⟨L,M,rfl,u,w⟩;have j:=jd (And.intro u w);clear u w;generalize z:a++FM.guard FM.outer t=N at j⊢;have D:=jd z;clear z);go_ret;rw[s.o,D.o];exact⟨_,_,rfl,j.o.1,(au ((aa wr).alloc _)).trans j.o.2⟩
theorem PO{w W:World}{ys:List Int}{g:Nat}{a:Array Value}(h:w.heap[g]?=some (.cells ((ys.map (Value.int .i32)).toArray++a) 21 (0,0)))(f:Ext w W):∀j y,ys[j]?=some y->W.cell? ((⟨g,0,none⟩:Addr).add j)=some (.int .i32 y):=by
 intro j y d;have e:(⟨g,0,none⟩:Addr).add j=⟨g,j,none⟩:=by unfold Addr.add;split<;>simp_all
 have i:j<ys.length:=(dh.1 d).1;rw[e,cy j (f.heap h),Array.getElem?_append_left (by simpa using i)];simp[d]
theorem Rn{b:ByteArray}{l:List Int}(h:signs b=l)(a:ByteArray):signs (a++b)=signs a++l:=by rw[yN,h]
theorem Ro(g:Int)(d:0<=g)(e:g<=99):∀x∈FM.dec g,x<128:=by
 unfold FM.dec;intro x a;split at a
 .simp at a;omega
 .simp at a;omega
theorem M9:∀k,k<5->∀x∈58::47::FM.names.getD k [],x<128:=by decide
theorem DY:∀k,k<5->signs (CZ.getD k ⟨#[]⟩)=FM.names.getD k []:=by decide
def RB(ys:List Int)(cap:Nat):Obj:=.cells ((ys.map (Value.int .i32)).toArray++Array.replicate (cap-ys.length) (.int .i32 0)) 21
theorem XI(b:ByteArray)(ys:List Int)(h:signs b=ys)(f:∀x∈ys,x<128)(i:ys.length<=100)(W:World):(convert 9 24 (.string b)).run Tryz.prog W=.ok (.slice (some ⟨W.heap.size,0,none⟩) ys.length (grownCap W ys.length 0 21)) (W.drew.alloc (RB ys (grownCap W ys.length 0 21))):=by
 have d:=uF b (by rw[h];exact f);rw[h]at d;have a:(Conv.runesFrom b b.size 0 #[]).size=ys.length:=by rw[d];simp
 have e:=run_runes_of_string (P:=Tryz.prog) W 9 24 21 b Tryz.underlying9 eT Tryz.underlying21 (by rw[a];omega);rw[a,d]at e;exact e
theorem abD{w W:World}{ys:List Int}{a g:Nat}(d:g=w.heap.size)(e:Ext (w.alloc (RB ys a)) W):∀j y,ys[j]?=some y->W.cell? ((⟨g,0,none⟩:Addr).add j)=some (.int .i32 y):=by subst d;exact PO (aB w _) e
def kZ(g:Int):List Int:=36::123::FM.dec g
theorem Kr(g:Int):(kZ g).length<=4:=by have:=FM.Da g;unfold kZ;simp only[aF];omega
theorem Rp(w0 wr:World)(v vt ve:Value)(m:List Int)(f:FM.Form)(h:iT w0 v m wr)(T:ib w0 vt f.text)(s:ib w0 ve f.els)(hm:FM.dJ f=true)(hk:f.kind≠0)(hb:m.length+2*f.text.length+2*f.els.length<=35184372080000):Calls Tryz.prog 99 #[v,.agg #[.int .i64 f.kind,.int .i64 f.group,.int .i64 f.rX,vt,ve]] wr (GrP w0 (m++FM.put f) wr):=by
 have HP:=jd (show FM.put f=kZ f.group++(FM.body f++[125])by unfold FM.put kZ;rw[ae hk];rfl);obtain⟨-,-,hg0,yS,hc0,Ju,hkk⟩:=FM.PQ hm;have HKK:=jd hkk;obtain⟨k,g,c,t,e⟩:=f;dsimp only at T s hk hb HP hg0 yS hc0 Ju HKK⊢;have nR:=jd T;have yx:=jd s;obtain⟨G,rfl⟩:∃G:Nat,g=G:=⟨g.toNat,by omega⟩;have HI:=jd (fun W=>Uw G (by omega) W);have HDA:=jd (Ro G hg0 yS);have fM:=jd (show Ga w0 wr wr.heap.size [.int .i64 k,.int .i64 (G:Int),.int .i64 c,vt,ve] v m (wr.alloc (.cells #[.int .i64 k,.int .i64 (G:Int),.int .i64 c,vt,ve] 109))from⟨h.alloc,aB wr _,au ((aa wr).alloc _)⟩);obtain⟨At,ct,rfl,-⟩:=T;obtain⟨Ae,ce,rfl,-⟩:=s;obtain⟨Ao,co,rfl,-⟩:=h.own.form;have b0:(k==0)=false:=by simpa using hk
 have hpl:=Kr (G:Int);obtain⟨nb,hnb⟩:∃nb,nb=wr.heap.size:=⟨_,rfl⟩;clear h hm hkk hk;go_enter Tryz.func99,Tryz.ntmps99;go_upto_region 3 with fail;rw[<-hnb]at fM⊢;clear hnb;generalize wr.alloc (.cells #[.int .i64 k,.int .i64 (G:Int),.int .i64 c,.slice At t.length ct,.slice Ae e.length ce] 109)=O at fM⊢;have d1:=fM.o.c 1 _ rfl;go_upto_region 4 with(first|(go_at_call 52;refine(HI.o _).mono ?_;rintro e' w2⟨b,rfl,U,rfl⟩;have hsz:b.size<=2:=(by rw[<-lN,U];exact(FM.Da _).2);have J:signs ({data:=#[36,123]}++b)=kZ G:=Rn U _;have Za:=uF ({data:=#[36,123]}++b) (by rw[J];intro x hx;simp only[kZ,List.mem_cons]at hx;rcases hx with rfl|rfl|hx;decide;decide;exact HDA.o x hx);rw[J]at Za;have K:(Conv.runesFrom ({data:=#[36,123]}++b) ({data:=#[36,123]}++b).size 0 #[]).size=(kZ G).length:=(by rw[Za];simp);have V:=run_runes_of_string (P:=Tryz.prog) O 9 24 21 ({data:=#[36,123]}++b) Tryz.underlying9 eT Tryz.underlying21 (by rw[K];omega);rw[K,Za]at V;have hcm:=grownCap_le_maxLen O (kZ G).length 0 21 (by unfold maxLen;omega);unfold maxLen at hcm;generalize grownCap O (kZ G).length 0 21=A at V hcm;have L:=aB O.drew (.cells (((kZ G).map (Value.int .i32)).toArray++Array.replicate (A-(kZ G).length) (.int .i32 0)) 21);have X:Ext O (O.drew.alloc (.cells (((kZ G).map (Value.int .i32)).toArray++Array.replicate (A-(kZ G).length) (.int .i32 0)) 21)):=((aa O).drew).alloc _;generalize O.drew.alloc (.cells (((kZ G).map (Value.int .i32)).toArray++Array.replicate (A-(kZ G).length) (.int .i32 0)) 21)=w2 at V L X;have tV:=jd (PO (w:=w2) (W:=w2) (ys:=kZ G) L (aa _));have dY:=jd (fM.o.aj X);generalize Zb:kZ G=pre at*;have M:=jd Zb;clear U J Za K L X d1 Zb)|(at_builtin;refine eX rfl _ _ rfl w0.heap.size _ m pre dY.o.bX.own rfl ⟨O.heap.size,0,none⟩ _ _ rfl rfl tV.o ?hn dY.o.bX.size ?_;(case hn=>omega);intro v3 E a d;generalize i:m++pre=p at a;have rE:=jd i;have hl3:p.length<=m.length+4:=(by rw[<-i,ai];omega);obtain⟨A3,c3,rfl,-⟩:=a.form;have B:=jd (dY.o.app a d);clear a d i V));clear hpl;have d0:=B.o.c 0 _ rfl;rcases HKK.o with⟨h0,-⟩|⟨a,T,s⟩|⟨d,s,hc⟩|⟨h3,T,hc⟩|⟨h4,hc⟩
 .subst h0;cases b0
 .subst a;by_cases H:c=0
  .have N:=jd (show FM.body ⟨1,G,c,t,e⟩=[]by unfold FM.body;rw[av rfl,av H]);have b1:(c !=0)=false:=by simp[H]
   have d2:=B.o.c 2 _ rfl;clear T s H;go_wp2_with(at_builtin;refine eX rfl _ _ rfl w0.heap.size _ (p) [125] (iW B.o.bX).own rfl ⟨E.heap.size,0,none⟩ 1 1 rfl rfl (jE rfl) ?hn ?hB ?_;(case hn=>(simp only[aF,aN];omega));(case hB=>exact(iW B.o.bX).size);intro v9 w9 a d;generalize i:(p)++[125]=Q at a;have R:=jd i;clear i;have F:=jd (Ga.app (B.o.aj ((aa _).alloc _)) a d);obtain⟨A9,c9,rfl,-⟩:=a.form;clear a d);go_ret;have j:m++FM.put ⟨1,G,c,t,e⟩=Q:=by rw[<-R.o,HP.o,<-rE.o,<-M.o,N.o];simp
   rw[j];exact⟨_,_,rfl,F.o.bX,F.o.keep⟩
  .have N:=jd (show FM.body ⟨1,G,c,t,e⟩=58::47::FM.names.getD (c.toNat-1) []by unfold FM.body;rw[av rfl,ae H]);have b1:(c !=0)=true:=by simpa using H
   have d2:=B.o.c 2 _ rfl;have C:=ag B.o.box;obtain⟨q,hq⟩:∃q,c.toNat-1=q:=⟨_,rfl⟩;have XJ:q<5:=by omega
   obtain rfl:c=(q:Int)+1:=by omega
   rw[hq]at N;have hnl:=M3 q XJ;have adw:=yQ q XJ;obtain⟨ys,I⟩:∃ys,ys=58::47::FM.names.getD q []:=⟨_,rfl⟩;have hyl:ys.length<=12:=by rw[I];simp only[aF];omega
   have hyp:0<ys.length:=by rw[I];simp
   have V:=XI ({data:=#[58,47]}++CZ.getD q ⟨#[]⟩) ys (by rw[yN,DY q XJ,I];rfl) (by rw[I];exact M9 q XJ) (by omega);have HYS:=jd I;have hcs:(CZ.map Value.string).toArray[q]?=some (.string (CZ.getD q ⟨#[]⟩)):=by simp[List.getD_eq_getElem?_getD,show q<CZ.length from XJ]
   have HCS:=jd hcs;have ew:IntKind.i64.wrap (q:Int)=(q:Int):=jA _ (by omega);have hqi:(q:Int)<5:=by omega
   generalize CZ.getD q ⟨#[]⟩=nq at hnl V HCS;have IJ:¬9223372036854775807<2+nq.size:=by omega
   have DZ:=jd Rf;clear T s H hq I hcs adw;go_upto_region 7 with fail;go_region_law(first|(refine kY rfl _ _ (by rfl) w0.heap.size _ p ys ?hown (by rfl) ⟨Y.heap.size,0,none⟩ ys.length _ (by rfl) rfl hyp ?hc ?hn ?hB ?_;(case hown=>exact(u.o.aj (by(focus(repeat(first|exact aa _|apply ak|apply af))))).bX.own);(case hc=>exact abD (w:=Y) rfl (by(focus(repeat(first|exact aa _|apply ak|apply af)))));(case hn=>omega);(case hB=>exact(u.o.aj (by(focus(repeat(first|exact aa _|apply ak|apply af))))).bX.size);intro gg A S a d;generalize i:p++ys=z at a;have rF:=jd i;have Z:z.length<=p.length+12:=(by rw[<-i,ai];omega);have D:=jd ((u.o.aj (by(focus(repeat(first|exact aa _|apply ak|apply af))))).app a d);clear a d i)|(go_simp;go_at_call 114;refine(DZ.o _).mono ?_;rintro e' Y⟨rfl,hw⟩;have hx4:Ext E Y:=(by rw[hw];exact((aa E).drew).alloc _);have hb4:=(show Y.heap[E.heap.size]?=some (.cells (CZ.map Value.string).toArray 9 (0,0))from(by rw[hw];exact aB E.drew _));have hcl:=(cy q hb4).trans HCS.o;have u:=jd (B.o.aj hx4);have d2:=u.o.c 2 _ rfl;clear hw hx4 hb4));all_goals
    clear V ew;go_wp2_with(at_builtin;refine eX rfl _ _ rfl w0.heap.size _ (z) [125] (iW D.o.bX).own rfl ⟨S.heap.size,0,none⟩ 1 1 rfl rfl (jE rfl) ?hn ?hB ?_;(case hn=>(simp only[aF,aN];omega));(case hB=>exact(iW D.o.bX).size);intro v9 w9 a d;generalize i:(z)++[125]=Q at a;have R:=jd i;clear i;have F:=jd (Ga.app (D.o.aj ((aa _).alloc _)) a d);obtain⟨A9,c9,rfl,-⟩:=a.form;clear a d);go_ret;have j:m++FM.put ⟨1,G,(q:Int)+1,t,e⟩=Q:=by rw[<-R.o,HP.o,<-rF.o,HYS.o,<-rE.o,<-M.o,N.o];simp
    rw[j];exact⟨_,_,rfl,F.o.bX,F.o.keep⟩
 .skip;subst d;have N:=jd (show FM.body ⟨2,G,c,t,e⟩=58::43::FM.guard FM.marks t from rfl);clear s hc;go_upto_region 9 with fail;have r:=jd (B.o.aj (((aa E).alloc (.cells #[.int .i32 58,.int .i32 43] 21)).drew));have d3:=B.o.c 3 _ rfl;have C:=ag B.o.box;have abE:(p++[58,43]).length<=p.length+2:=by rw[ai];simp only[aF,aN];omega
  go_region_law(first|(refine kY rfl _ _ (by rfl) w0.heap.size _ p [58,43] r.o.bX.own (by rfl) ⟨E.heap.size,0,none⟩ 2 2 (by rfl) rfl (by decide) (bI (ys:=[58,43]) (aB E _)) (by simp only[aF,aN];omega) r.o.bX.size ?_;intro gg A Y a d;have Na:=jd (And.intro a d);have u:=jd (r.o.app a d);have d3:=u.o.c 3 _ rfl;have C:=ag u.o.box;clear a d)|(go_simp;go_at_call 113;refine(mR FM.marks _ pX w0 _ _ _ (p++[58,43]) t u.o.bX nR.o (by omega)).mono ?_;rintro e' S⟨A5,c5,s,a,d⟩;generalize i:(p++[58,43])++FM.guard FM.marks t=z at s a;have Z:z.length<=(p++[58,43]).length+2*(t).length:=(by rw[<-i,ai];have:=kK FM.marks t;omega);have Uz:=jd i;subst s;clear i;have D:=jd (u.o.mP a d);clear a d));all_goals
   go_wp2_with(at_builtin;refine eX rfl _ _ rfl w0.heap.size _ (z) [125] (iW D.o.bX).own rfl ⟨S.heap.size,0,none⟩ 1 1 rfl rfl (jE rfl) ?hn ?hB ?_;(case hn=>(simp only[aF,aN];omega));(case hB=>exact(iW D.o.bX).size);intro v9 w9 a d;generalize i:(z)++[125]=Q at a;have R:=jd i;clear i;have F:=jd (Ga.app (D.o.aj ((aa _).alloc _)) a d);obtain⟨A9,c9,rfl,-⟩:=a.form;clear a d);go_ret;have j:m++FM.put ⟨2,G,c,t,e⟩=Q:=by rw[<-R.o,HP.o,<-Uz.o,<-rE.o,<-M.o,N.o];simp
   rw[j];exact⟨_,_,rfl,F.o.bX,F.o.keep⟩
 .subst h3;have N:=jd (show FM.body ⟨3,G,c,t,e⟩=58::45::FM.guard FM.marks e from rfl);clear T hc;go_upto_region 11 with fail;have r:=jd (B.o.aj (((aa E).alloc (.cells #[.int .i32 58,.int .i32 45] 21)).drew));have d3:=B.o.c 4 _ rfl;have C:=ag B.o.box;have abE:(p++[58,45]).length<=p.length+2:=by rw[ai];simp only[aF,aN];omega
  go_region_law(first|(refine kY rfl _ _ (by rfl) w0.heap.size _ p [58,45] r.o.bX.own (by rfl) ⟨E.heap.size,0,none⟩ 2 2 (by rfl) rfl (by decide) (bI (ys:=[58,45]) (aB E _)) (by simp only[aF,aN];omega) r.o.bX.size ?_;intro gg A Y a d;have Na:=jd (And.intro a d);have u:=jd (r.o.app a d);have d3:=u.o.c 4 _ rfl;have C:=ag u.o.box;clear a d)|(go_simp;go_at_call 113;refine(mR FM.marks _ pX w0 _ _ _ (p++[58,45]) e u.o.bX yx.o (by omega)).mono ?_;rintro e' S⟨A5,c5,s,a,d⟩;generalize i:(p++[58,45])++FM.guard FM.marks e=z at s a;have Z:z.length<=(p++[58,45]).length+2*(e).length:=(by rw[<-i,ai];have:=kK FM.marks e;omega);have Uz:=jd i;subst s;clear i;have D:=jd (u.o.mP a d);clear a d));all_goals
   go_wp2_with(at_builtin;refine eX rfl _ _ rfl w0.heap.size _ (z) [125] (iW D.o.bX).own rfl ⟨S.heap.size,0,none⟩ 1 1 rfl rfl (jE rfl) ?hn ?hB ?_;(case hn=>(simp only[aF,aN];omega));(case hB=>exact(iW D.o.bX).size);intro v9 w9 a d;generalize i:(z)++[125]=Q at a;have R:=jd i;clear i;have F:=jd (Ga.app (D.o.aj ((aa _).alloc _)) a d);obtain⟨A9,c9,rfl,-⟩:=a.form;clear a d);go_ret;have j:m++FM.put ⟨3,G,c,t,e⟩=Q:=by rw[<-R.o,HP.o,<-Uz.o,<-rE.o,<-M.o,N.o];simp
   rw[j];exact⟨_,_,rfl,F.o.bX,F.o.keep⟩
 .subst h4;have N:=jd (show FM.body ⟨4,G,c,t,e⟩=58::63::(FM.guard FM.marks t++58::FM.guard FM.marks e)from rfl);clear hc;go_upto_region 13 with fail;have r:=jd (B.o.aj (((aa E).alloc (.cells #[.int .i32 58,.int .i32 63] 21)).drew));have d3:=B.o.c 3 _ rfl;have C:=ag B.o.box;have abE:(p++[58,63]).length<=p.length+2:=by rw[ai];simp only[aF,aN];omega
  go_region_law(first|(refine kY rfl _ _ (by rfl) w0.heap.size _ p [58,63] r.o.bX.own (by rfl) ⟨E.heap.size,0,none⟩ 2 2 (by rfl) rfl (by decide) (bI (ys:=[58,63]) (aB E _)) (by simp only[aF,aN];omega) r.o.bX.size ?_;intro gg A Y a d;have Na:=jd (And.intro a d);have u:=jd (r.o.app a d);have d3:=u.o.c 3 _ rfl;have C:=ag u.o.box;clear a d)|(go_simp;go_at_call 113;refine(mR FM.marks _ pX w0 _ _ _ (p++[58,63]) t u.o.bX nR.o (by omega)).mono ?_;rintro e' S⟨A5,c5,s,a,d⟩;generalize i:(p++[58,63])++FM.guard FM.marks t=z at s a;have Z:z.length<=(p++[58,63]).length+2*(t).length:=(by rw[<-i,ai];have:=kK FM.marks t;omega);have Uz:=jd i;subst s;clear i;have D:=jd (u.o.mP a d);clear a d));all_goals
   go_upto_region 14 with fail;have HD6:=jd (D.o.aj (((aa S).alloc (.cells #[.int .i32 58] 21)).drew));have d3:=D.o.c 4 _ rfl;have C:=ag D.o.box;have ae5:(z++[58]).length<=z.length+1:=by rw[ai];simp only[aF,aN];omega
   go_region_law(first|(refine kY rfl _ _ (by rfl) w0.heap.size _ z [58] HD6.o.bX.own (by rfl) ⟨S.heap.size,0,none⟩ 1 1 (by rfl) rfl (by decide) (bI (ys:=[58]) (aB S _)) (by simp only[aF,aN];omega) HD6.o.bX.size ?_;intro gg A w6 a d;have Jt:=jd (And.intro a d);have fe:=jd (HD6.o.app a d);have d3:=fe.o.c 4 _ rfl;have C:=ag fe.o.box;clear a d)|(go_simp;go_at_call 113;refine(mR FM.marks _ pX w0 _ _ _ (z++[58]) e fe.o.bX yx.o (by omega)).mono ?_;rintro e' w7⟨A7,c7,s,a,d⟩;generalize i:(z++[58])++FM.guard FM.marks e=xV at s a;have IK:xV.length<=(z++[58]).length+2*(e).length:=(by rw[<-i,ai];have:=kK FM.marks e;omega);have adx:=jd i;subst s;clear i;have gB:=jd (fe.o.mP a d);clear a d));all_goals
    go_wp2_with(at_builtin;refine eX rfl _ _ rfl w0.heap.size _ (xV) [125] (iW gB.o.bX).own rfl ⟨w7.heap.size,0,none⟩ 1 1 rfl rfl (jE rfl) ?hn ?hB ?_;(case hn=>(simp only[aF,aN];omega));(case hB=>exact(iW gB.o.bX).size);intro v9 w9 a d;generalize i:(xV)++[125]=Q at a;have R:=jd i;clear i;have F:=jd (Ga.app (gB.o.aj ((aa _).alloc _)) a d);obtain⟨A9,c9,rfl,-⟩:=a.form;clear a d);go_ret;have j:m++FM.put ⟨4,G,c,t,e⟩=Q:=by rw[<-R.o,HP.o,<-adx.o,<-Uz.o,<-rE.o,<-M.o,N.o];simp
    rw[j];exact⟨_,_,rfl,F.o.bX,F.o.keep⟩
namespace FM
theorem D5{l:List Form}{k:Nat}(h:k+1<=l.length):lQ false (l.take (k+1))=(l[k].kind==0):=by rw[kE (by omega),rZ]
theorem z8(l:List Form)(k:Nat):may l=(ic false (l.take k)&&ic (lQ false (l.take k)) (l.drop k)):=by unfold may;rw[<-mU,List.take_append_drop]
theorem GI{l:List Form}{k:Nat}(h:k<l.length)(a:ic false (l.take k)=true)(d:dJ l[k]=true)(e:(lQ false (l.take k)&&l[k].kind==0)=false):ic false (l.take (k+1))=true:=by rw[kE h,mU,a];simp[ic,d,e]
theorem UA{l:List Form}{k:Nat}(h:k<l.length)(a:dJ l[k]=false\/(lQ false (l.take k)&&l[k].kind==0)=true):may l=false:=by
 rw[z8 l k,ed h];rcases a with a|a
 .simp[ic,a]
 .simp[ic,a]
end FM
theorem XK(w0 wr:World)(v vt d:Value)(a:List Int)(f:FM.Form)(h:iT w0 v a wr)(e:ib w0 vt f.text)(i:ib w0 d f.els)(k:FM.dJ f=true)(m:a.length+2*f.text.length+2*f.els.length<=35184372080000):Calls Tryz.prog 99 #[v,.agg #[.int .i64 f.kind,.int .i64 f.group,.int .i64 f.rX,vt,d]] wr (GrP w0 (a++FM.put f) wr):=by
 by_cases j:f.kind=0
 .exact Uy w0 wr v vt d a f h e i j (by omega)
 .exact Rp w0 wr v vt d a f h e i k j m
namespace FM
def sz(f:Form):Nat:=2*f.text.length+2*f.els.length+30
def nH:List Form->Nat
|[]=>0
|f::r=>sz f+nH r
theorem Kt:∀k,(names.getD k []).length<=10:=by
 intro k;rcases fC k 5 with h|h
 .exact(yQ k h).2
 .rw[List.getD_eq_getElem?_getD,gD (by simpa[names]using h)];simp
theorem PR(f:Form):(put f).length<=sz f:=by
 have a:=kK outer f.text;have d:=kK marks f.text;have e:=kK marks f.els;have h:=Da f.group;have i:=Kt (f.rX.toNat-1);unfold put sz body;split
 .omega
 .simp only[aF,ai,aN];split
  .split
   .simp;omega
   .simp only[aF];omega
  split
  .simp only[aF];omega
  split
  .simp only[aF];omega
  split
  .simp only[aF,ai];omega
  .simp;omega
theorem D6{l:List Form}{k:Nat}(h:k<l.length):print (l.take (k+1))=print (l.take k)++put l[k]:=by unfold print;rw[kE h,jS,qK];simp
theorem D7:∀{l:List Form}{k:Nat}(h:k<l.length),(print (l.take k)).length+sz l[k]<=nH l
|[],k,h=>by simp at h
|f::r,0,_=>by simp[print,nH]
|f::r,k+1,h=>by have a:=D7 (l:=r) (k:=k) (by simpa using h);have d:=PR f;have e:print ((f::r).take (k+1))=put f++print (r.take k):=rfl;rw[e,ai];simp only[List.getElem_cons_succ,nH];omega
theorem D8:∀{l:List Form}{p:Bool},ic p l=true->∀f∈l,dJ f=true
|[],_,_,_,h=>by simp at h
|x::r,p,a,f,d=>by
 unfold ic at a;simp only[jR]at a;rcases List.mem_cons.1 d with rfl|d
 .exact a.1.1
 .exact D8 a.2 f d
end FM
def UB(l:List FM.Form)(w:World)(e:Ending)(w':World):Prop:=Ext w w'/\((FM.may l=true/\∃A c,e=.returned (.tuple #[.slice A (FM.print l).length c,.bool true])/\ay 21 1 Cc w.heap.size w' (.slice A (FM.print l).length c) (FM.print l))\/(FM.may l=false/\e=.returned (.tuple #[.slice none 0 0,.bool false])))
theorem Rq(r:Int)(w:World):Calls Tryz.prog 23 #[.int .i32 r] w (qV (RX.aQ r) w):=by
 by_cases a:0<=r<;>by_cases d:r<=1114111<;>by_cases e:r<55296<;>by_cases f:57343<r;all_goals first|(exfalso;omega)|skip
 all_goals
  go_enter Tryz.func23,Tryz.ntmps23;go_wp2_with fail;go_ret;exact⟨aH (by simp[RX.aQ];omega),rfl⟩
theorem ay.get{B:Nat}{w:World}{A:Option Addr}{n c:Nat}{xs:List Int}(h:ay 21 1 Cc B w (.slice A n c) xs){k:Nat}(t:k<xs.length):∃g,A=some ⟨g,0,none⟩/\B<=g/\w.cell? ⟨g,k,none⟩=some (.int .i32 xs[k])/\w.frozen? ⟨g,k,none⟩=false/\∀y,ay 21 1 Cc B (w.setCell ⟨g,k,none⟩ (.int .i32 y)) (.slice A n c) (xs.set k y):=by
 have e:=h.dM;obtain⟨D,e⟩:=e;rcases e with⟨p,E⟩|⟨g,u,a,p,r,f,i,j,m,d⟩
 .omega
 .injection p with v z C;subst v z C;refine⟨g,rfl,r,?_,fq k f,fun y=>mI ?_⟩
  .rw[cy k f];have s:(a.toList.take (xs.length*1))[k]?=some (.int .i32 xs[k]):=by rw[d];simp[t]
   rw[pY,av (by omega)]at s;simpa using s
  .rw[gK];refine⟨by simp,.inr ⟨g,c,a.setIfInBounds k (.int .i32 y),rfl,r,aP f,i,j,by simpa using m,?_⟩⟩;rw[Array.toList_setIfInBounds,List.take_set,d,List.map_set]
theorem oN{w:World}{f:Array Oper}{rest:List Oper}{o:Oper}{a:Act}{Q:Exit->Act->World->Prop}(i:o.guard=none)(s x:Operand)(F:o.op=.call {callee:=.builtin .append,args:=#[s,x],argTypes:=#[24,24]})(B:Nat)(v k:Value)(xs ys:List Int)(d:ay 21 1 Cc B w v xs)(G:a.eval s=v)(H:a.eval x=k)(m:ib w k ys)(S:xs.length+ys.length<=35184372088832)(L:B<=w.heap.size)(h:∀p w',ay 21 1 Cc B w' p (xs++ys)->w.grownBy w' v.ownBlock->wpList Tryz.prog f Q rest (a.put o.dst p) w'):wpList Tryz.prog f Q (o::rest) a w:=by
 obtain⟨I,hi,t,z,C⟩:=fD gQ;obtain⟨A,c,rfl,T,U,e,D⟩:=m;cases A with
 |none=>
  obtain rfl:=D rfl;obtain rfl:ys=[]:=by
   cases ys with
   |nil=>rfl
   |cons y r=>obtain⟨b,o,E,-⟩:=e 0 y rfl;cases E
  refine Bw i s x 24 F B 21 I 1 eT hi v xs.length (xs.map (Value.int .i32)) G d.dM H ?_;exact h v w (by rw[iU];exact d) (sV _ _)
 |some M=>
  refine wpList_append_own (P:=Tryz.prog) (w:=w) i s x _ F B 21 I (.int .i32 0) 1 4 eT hi t z C rfl (by decide) v xs.length _ G d.dM M ys.length c (ys.map (Value.int .i32)) H (by simp) ?_ ?_ (by unfold maxLen;omega) (by omega) L ?_
  .refine eG (fun j y N=>?_);obtain⟨b,o,E,J⟩:=e j y N;rw[xg E,Go.WideShapes.add_plain];rw[sU]at J;exact J
  .intro u K;simp at K;obtain⟨y,_,rfl⟩:=K;rfl
  .intro p w' O R _;refine h p w' (mI ?_) R;rw[jS,ai];exact O
def bsf:List ByteArray:=[⟨#[36,49]⟩,⟨#[36,123,49,125]⟩,⟨#[36,123,48,58,47,117,112,99,97,115,101,125]⟩,⟨#[36,123,49,58,47,112,97,115,99,97,108,99,97,115,101,125]⟩,⟨#[36,123,49,58,43,120,125]⟩,⟨#[36,123,49,58,45,121,125]⟩,⟨#[36,123,49,58,63,120,58,121,125]⟩,⟨#[36,123,49,58,122,125]⟩,⟨#[97]⟩,⟨#[45]⟩,⟨#[36]⟩,⟨#[92,47]⟩,⟨#[36,123,49,58,47,110,111,125]⟩,⟨#[36,49,50]⟩,⟨#[92,36,49]⟩,⟨#[36,123,50,58,47,99,97,109,101,108,99,97,115,101,125]⟩,⟨#[36,49,50,51]⟩]
section
variable{w0:World}{tb:Nat}{sv:Value}{ts:List Int}
theorem Nb(w:World)(i:Nat)(m:rG w0 tb sv ts w i):Calls Tryz.prog 49 #[.pointer (some ⟨tb,0,none⟩)] w (si (fun w' v=>ay 21 1 Cc (tb+1) w' v (TP.fmt ts i).1) tb sv w (TP.fmt ts i).2):=by
 have d:=jd (oz.start m);have L:=TP.sj ts i (n:=4) (by decide);have s:=TP.mo 4 m.le;obtain⟨R,E⟩:∃R,TP.fmt ts i=R:=⟨_,rfl⟩;have F:=jd (show TP.D9 ts (TP.next ts i 4).1 (TP.next ts i 4).2 []=R from E);rw[E];obtain⟨B,p⟩:∃B,TP.next ts i 4=B:=⟨_,rfl⟩;have M:=jd (fun w m=>abF (w0:=w0) (tb:=tb) (sv:=sv) B w i m p);rw[p]at F L s;obtain⟨S,T⟩:=B;dsimp only at F M L s;clear m E p;go_enter Tryz.func49,Tryz.ntmps49;go_wp2_with(go_at_call 32;refine(M.o _ ?hen).mono ?_;(case hen=>exact d.o.ten);rintro e w'⟨rfl,t,u⟩;have d:=jd (iB d.o t u (by omega));clear t u);go_loopw[3,4](fun v n wr=>∃(k r:Nat)(f:List Int),n=.int .i64 (k:Int)/\oz w0 tb sv ts w r v f wr/\TP.D9 ts k r f=R/\k<=3/\f.length+k*17<=51)(fun _ n _=>(intOf n).toNat);case atStart=>exact⟨S,T,[],rfl,d.o,F.o,by omega,by simp only[aN];omega⟩
 case round=>
  obtain⟨k,r,f,rfl,h,z,U,N⟩:=hrel;have d:=jd h;have O:=jd z;have G:=h.ten.le;obtain⟨Ao,co,rfl,V,X⟩:=h.own.form;clear h z;by_cases A:k=0
  .subst A;go_wp2_with fail;go_ret;rw[<-O.o];exact⟨_,rfl,ay.weak d.o.own d.o.le,d.o.ten.st,d.o.only⟩
  .obtain⟨j,rfl⟩:∃j,k=j+1:=⟨k-1,by omega⟩;obtain⟨a,C⟩:∃a,TP.one ts r FM.pieces=a:=⟨_,rfl⟩;have Y:=jd (fun w m=>ku (w0:=w0) (tb:=tb) (sv:=sv) bsf 17 FM.pieces a w r m (by decide) (by decide) (by decide) rfl rfl C);have H:=TP.one_le FM.pieces G;have I:=TP.fZ (ts:=ts) (i:=r) (l:=FM.pieces) (n:=17) (by decide);have Z:=jd (show TP.D9 ts j a.2 (f++a.1)=R by rw[<-C];exact O.o);rw[C]at H I;clear C A;have hj1:(0:Int)<(j:Int)+1:=by omega
   go_wp2_with(first|(go_at_call 33;refine(Y.o _ ?hen).mono ?_;(case hen=>exact d.o.ten);rintro e w'⟨v,rfl,J,t,u⟩;have d:=jd (iB (bP d.o) t u (by omega));obtain⟨Aa,ca,rfl,-⟩:=J.form;have HV:=jd J;clear J t u)|(at_builtin;refine qW rfl _ _ rfl w.heap.size (tb+1) _ _ _ _ d.o.own rfl rfl HV.o ?hn ?hB ?_;(case hn=>omega);(case hB=>exact jF d.o.only);intro v' w2 D P;generalize K:((_:List Int)++(_:List Int))=uG at D;have HX:=jd K;have hl2:=jG ((congrArg List.length K.symm).trans ai);have Q:=oz.app d.o D P;obtain⟨Ax,cx,rfl,-⟩:=D.form;have d:=jd Q;clear D P Q K));go_roundw;case rel=>exact⟨j,a.2,uG,by go_num,d.o,by rw[<-HX.o];exact Z.o,by omega,by omega⟩
   case measure=>simp[intOf]
end
end
namespace SH
theorem FH:∀(l:List (List Int))(a:List Int),dD (l++[a])=dD l++((if l.length=0 then[]else[44])++FM.guard JE a)
|[],a=>by simp[dD]
|[b],a=>by simp[dD]
|b::c::r,a=>by have d:=FH (c::r) a;simp only[List.cons_append,dD]at d⊢;rw[d];simp
theorem Fs{l:List (List Int)}{k:Nat}(h:k<l.length):dD (l.take (k+1))=dD (l.take k)++((if k=0 then[]else[44])++FM.guard JE l[k]):=by rw[kE h,FH,kg,Nat.min_eq_left (by omega)]
def tot:List (List Int)->Nat
|[]=>0
|a::r=>a.length+1+tot r
theorem Fq:∀{l:List (List Int)}{k:Nat}(h:k<l.length),(dD (l.take k)).length+2*l[k].length+2<=2*tot l
|[],k,h=>by simp at h
|a::r,0,_=>by simp[dD,tot];omega
|a::r,k+1,h=>by
 have d:=Fq (l:=r) (k:=k) (by simpa using h);have e:=kK JE a;cases r with
 |nil=>simp at h
 |cons b r=>
  cases k with
  |zero=>simp only[List.take_succ_cons,List.take_zero,dD,tot,List.getElem_cons_succ,List.getElem_cons_zero]at d⊢;omega
  |succ k=>simp only[List.take_succ_cons,dD,ai,aF,tot,List.getElem_cons_succ]at d⊢;omega
theorem ql:∀l:List (List Int),(dD l).length<=2*tot l
|[]=>by simp[dD]
|[a]=>by have:=kK JE a;simp only[dD,tot];omega
|a::b::r=>by have d:=ql (b::r);have:=kK JE a;simp only[dD,ai,aF,tot]at d⊢;omega
theorem Cg{s:List Int}{k:Nat}(h:k<s.length)(a:s[k]=47):ahead (s.drop k)=92::47::ahead (s.drop (k+1)):=by
 rw[ed h,a];generalize s.drop (k+1)=r;cases r with
 |nil=>rfl
 |cons d r=>rw[ahead];rfl
theorem Hz{s:List Int}{k:Nat}(h:k+1<s.length)(a:s[k]=92):ahead (s.drop k)=92::s[k+1]::ahead (s.drop (k+2)):=by rw[ed (show k<s.length by omega),ed h,a,ahead];rfl
theorem H5{s:List Int}{k:Nat}(h:k<s.length)(a:s[k]≠47)(e:s[k]≠92):ahead (s.drop k)=s[k]::ahead (s.drop (k+1)):=by
 rw[ed h];generalize s.drop (k+1)=r;cases r with
 |nil=>simp[ahead,a]
 |cons d r=>rw[ahead,ae a,ae e]
theorem Fu{s:List Int}{k:Nat}(h:k+1=s.length)(a:s[k]≠47):ahead (s.drop k)=[s[k]]:=by rw[ed (show k<s.length by omega),jg (by omega),ahead,ae a]
theorem vY{s:List Int}{k:Nat}(h:s.length<=k):ahead (s.drop k)=[]:=by rw[jg h];rfl
theorem kT:∀s:List Int,(ahead s).length<=2*s.length
|[]=>by simp[ahead]
|[c]=>by simp only[ahead];split<;>simp
|c::d::r=>by
 have a:=kT (d::r);have e:=kT r;simp only[aF]at a⊢;rw[ahead];split
 .simp only[aF];omega
 split
 .simp only[aF];omega
 .simp only[aF];omega
end SH
section
open Go.RowKit
def QS(rb:Nat)(sv:Value)(w:World)(st:RX.St):Prop:=w.heap[rb]?=some (.cells #[sv,.int .i64 st.at_,.int .i64 st.aC,.int .i64 st.op,.int .i64 st.code,.int .i64 st.gL] 122 (0,0))
structure Qn(w0:World)(rb:Nat)(sv:Value)(s:List Int)(w:World)(st:RX.St):Prop where
 sl:ib w0 sv s
 lo:w0.heap.size<=rb
 len:s.length<=60
 pos:∀x∈s,0<=x
 ext:Ext w0 w
 blk:QS rb sv w st
section
variable{w0 w w':World}{rb:Nat}{sv:Value}{s:List Int}{st st':RX.St}
theorem QS.c0(h:QS rb sv w st):w.cell? ⟨rb,0,none⟩=some sv:=cy 0 h
theorem QS.c1(h:QS rb sv w st):w.cell? ⟨rb,1,none⟩=some (.int .i64 st.at_):=cy 1 h
theorem QS.c2(h:QS rb sv w st):w.cell? ⟨rb,2,none⟩=some (.int .i64 st.aC):=cy 2 h
theorem QS.c3(h:QS rb sv w st):w.cell? ⟨rb,3,none⟩=some (.int .i64 st.op):=cy 3 h
theorem QS.c4(h:QS rb sv w st):w.cell? ⟨rb,4,none⟩=some (.int .i64 st.code):=cy 4 h
theorem QS.c5(h:QS rb sv w st):w.cell? ⟨rb,5,none⟩=some (.int .i64 st.gL):=cy 5 h
theorem QS.fr(h:QS rb sv w st)(o:Nat):w.frozen? ⟨rb,o,none⟩=false:=fq o h
theorem QS.set1(h:QS rb sv w st)(n:Nat):QS rb sv (w.setCell ⟨rb,1,none⟩ (.int .i64 n)) {st with at_:=n}:=aP h
theorem QS.set2(h:QS rb sv w st)(n:Nat):QS rb sv (w.setCell ⟨rb,2,none⟩ (.int .i64 n)) {st with aC:=n}:=aP h
theorem QS.aap(h:QS rb sv w st)(n:Nat):QS rb sv (w.setCell ⟨rb,3,none⟩ (.int .i64 n)) {st with op:=n}:=aP h
theorem QS.Vp(h:QS rb sv w st)(c b:Int):QS rb sv ((w.setCell ⟨rb,4,none⟩ (.int .i64 c)).setCell ⟨rb,5,none⟩ (.int .i64 b)) {st with code:=c,gL:=b}:=aP (aP h)
theorem Qn.step(h:Qn w0 rb sv s w st)(a:Only w w' rb)(d:QS rb sv w' st'):Qn w0 rb sv s w' st':=⟨h.sl,h.lo,h.len,h.pos,h.ext.only a h.lo,d⟩
theorem Qn.ex(h:Qn w0 rb sv s w st)(a:Ext w w'):Qn w0 rb sv s w' st:=⟨h.sl,h.lo,h.len,h.pos,h.ext.trans a,a.heap h.blk⟩
theorem Qn.jk(h:Qn w0 rb sv s w st):rb<w.heap.size:=ag h.blk
theorem Qn.bump(h:Qn w0 rb sv s w st)(n:Nat):Qn w0 rb sv s (w.setCell ⟨rb,1,none⟩ (.int .i64 ((st.at_+n:Nat):Int))) (st.bump n):=h.step ((aJ w rb).set _) (h.blk.set1 _)
theorem Qn.Dc(h:Qn w0 rb sv s w st)(n:Nat):Qn w0 rb sv s (w.setCell ⟨rb,2,none⟩ (.int .i64 (n:Nat))) {st with aC:=n}:=h.step ((aJ w rb).set _) (h.blk.set2 _)
theorem Qn.BG(h:Qn w0 rb sv s w st)(n:Nat):Qn w0 rb sv s (w.setCell ⟨rb,3,none⟩ (.int .i64 (n:Nat))) {st with op:=n}:=h.step ((aJ w rb).set _) (h.blk.aap _)
def Vx(v:Value)(w:World)(e:Ending)(w':World):Prop:=e=.returned v/\Ext w w'
def QV(v:Value)(rb:Nat)(sv:Value)(w:World)(st':RX.St)(e:Ending)(w':World):Prop:=e=.returned v/\QS rb sv w' st'/\Only w w' rb
theorem Sa(w:World)(st:RX.St)(a:Qn w0 rb sv s w st):Calls Tryz.prog 106 #[.pointer (some ⟨rb,0,none⟩)] w (Vx (.int .i32 (RX.aR s st 0)) w):=by
 have c0:=a.blk.c0;have c1:=a.blk.c1;have e:=jd (a.sl.ext a.ext);obtain⟨A,r,rfl,f,i,_⟩:=a.sl;clear a;by_cases h:s.length<=st.at_
 .have d:=jd (show RX.aR s st 0=-1 by unfold RX.aR;rw[gD (by omega)];rfl);have j:decide ((s.length:Int)<=st.at_)=true:=by simp;omega
  go_enter Tryz.func106,Tryz.ntmps106;go_wp2_with fail;go_quiet(fail);go_wp2_with fail;go_ret;exact⟨aH (by rw[d.o];rfl),(aa _).drewN _⟩
 .obtain⟨b,o,rfl,m⟩:=e.o.at_ (k:=st.at_) (by omega);have d:=jd (show RX.aR s st 0=s[st.at_]by unfold RX.aR;rw[aU (show st.at_+0<s.length by omega)];rfl);generalize s[st.at_]=x at d m;have j:decide ((s.length:Int)<=st.at_)=false:=by simp;omega
  have t:st.at_<s.length:=by omega
  have p:(st.at_:Int)<(s.length:Int):=by omega
  go_enter Tryz.func106,Tryz.ntmps106;go_wp2_with fail;go_quiet(fail);go_wp2_with fail;go_quiet(fail);go_wp2_with fail;go_ret;refine⟨aH (by rw[d.o];rfl),?_⟩;first|exact(aa _).drewN _|exact((aa _).drewN _).drewN _
abbrev dz:=@Sa
theorem Yj(w:World)(st:RX.St)(a:Qn w0 rb sv s w st):Calls Tryz.prog 90 #[.pointer (some ⟨rb,0,none⟩)] w (Vx (.bool st.ok) w):=by have c4:=a.blk.c4;clear a;go_enter Tryz.func90,Tryz.ntmps90;go_wp2_with fail;go_ret;exact⟨rfl,aa _⟩
abbrev dX:=@Yj
theorem iK(w:World)(st:RX.St)(c b:Int)(a:Qn w0 rb sv s w st):Calls Tryz.prog 91 #[.pointer (some ⟨rb,0,none⟩),.int .i64 c,.int .i64 b] w (QV (.tuple #[]) rb sv w (st.fail c b)):=by
 have c4:=a.blk.c4;have c5:=a.blk.c5;have i:=a.blk.fr 4;have j:=a.blk.fr 5;have e:=jd a.blk;clear a;by_cases h:st.code=0
 .have d:=jd (show st.fail c b={st with code:=c,gL:=b}by simp[RX.St.fail,h]);have f:(st.code==0)=true:=by simp[h]
  clear h;go_enter Tryz.func91,Tryz.ntmps91;go_wp2_with fail;go_end0;refine⟨rfl,?_,?_⟩
  .rw[d.o];exact e.o.Vp c b
  .exact((aJ w rb).set _).set _
 .have d:=jd (show st.fail c b=st by simp[RX.St.fail,h]);have f:(st.code==0)=false:=by simpa using h
  clear h;go_enter Tryz.func91,Tryz.ntmps91;go_wp2_with fail;go_end0;refine⟨rfl,?_,aJ w rb⟩;rw[d.o];exact e.o
end
section
variable{α:Type}{P:Program}{w:World}{ops:Array Oper}{rest:List Oper}{o:Oper}{a:Act}{Q:Exit->Act->World->Prop}
theorem Vy{t m sz bytes:Nat}{z:Value}(N:P.underlying t=some (.slice m))(nC:(P.info? m).map (fun i=>(i.zero,i.size,i.bytes))=some (some z,sz,bytes))(O:z.cells.size=sz)(R:0<sz)(S:bytes<=1000){T:List TypeId}{C:World->List Value->α->Prop}(hC:fO T C)(hT:m∉T)(U:o.guard=none)(s x:Operand)(ho:o.op=.call {callee:=.builtin .append,args:=#[s,x],argTypes:=#[t,t]})(B:Nat)(v:Value)(xs:List α)(y:α)(cs:List Value)(tb:TypeId)(E:ay m sz C B w v xs)(hne:0<xs.length)(hy:C w cs y)(F:cs.length=sz)(h1:∀u∈cs,u.oneCell'=true)(hs:a.eval s=v)(nb:Nat)(hx:a.eval x=.slice (some ⟨nb,0,none⟩) 1 1)(V:nb=w.heap.size)(hn:xs.length<=1000000)(hB:B<=w.heap.size)(h:∀r w',ay m sz C B w' r (xs++[y])->(w.alloc (.cells cs.toArray tb)).grownBy w' v.ownBlock->(r.ownBlock=v.ownBlock\/r.ownBlock=some (w.heap.size+1))->wpList P ops Q rest (a.put o.dst r) w'):wpList P ops Q (o::rest) a (w.alloc (.cells cs.toArray tb)):=by
 subst V;obtain⟨L,hi,G,d,H⟩:=fD nC;obtain⟨flat,M,h2⟩:=E;have A:=World.ownsRow.alloc M (.cells cs.toArray tb);have hm:xs.length+1<=maxLen:=by unfold maxLen;omega
 have I:(xs.length+1)*bytes<=140737488355328:=aG (yC (show xs.length+1<=1000001 by omega) S) (by omega);obtain⟨r,w',e,h3,h4,-⟩:=run_append_own (P:=P) (w.alloc (.cells cs.toArray tb)) B t o.type m L z sz bytes N hi G d H O R v xs.length flat A ⟨w.heap.size,0,none⟩ 1 1 cs (by omega) (jB _ _ _) h1 hm I (by simp;omega);have h5:r.ownBlock=v.ownBlock\/r.ownBlock=some (w.heap.size+1):=by
  rcases A.2 with⟨-,h0⟩|⟨g,D,p,rfl,hbg,X,hnc,hcm,J,Y⟩
  .omega
  .by_cases f:xs.length+1<=D
   .have K:xs.length*L.size+cs.length<=p.size:=by rw[d,F,J];have:=tC sz f;rw[pJ]at this;omega
    have k:=run_append_room (P:=P) (w.alloc (.cells cs.toArray tb)) t o.type m L N hi g xs.length D p X ⟨w.heap.size,0,none⟩ 1 1 cs (by rw[d];omega) (jB _ _ _) h1 f K;rw[e]at k;injection k with Z _;left;rw[Z];rfl
   .have holds:∀j u,flat[j]?=some u->(w.alloc (.cells cs.toArray tb)).cell? ((⟨g,0,none⟩:Addr).add j)=some u:=A.cells (g:=g) rfl;have k:=run_append_grow (P:=P) (w.alloc (.cells cs.toArray tb)) t o.type m L z N hi G ⟨g,0,none⟩ xs.length D flat (by rw[d];exact M.1) holds ⟨w.heap.size,0,none⟩ 1 1 cs (by rw[d];omega) (jB _ _ _) (by unfold maxLen at hm;omega) (by omega) (growslice_fits (by omega) (by rw[H];exact I));rw[e]at k;injection k with Z _;right;rw[Z];simp[Value.ownBlock]
 refine wpList_plain U fun _ hK=>?_;unfold Oper.wp execOp;simp only[ho,resolve,invoke,builtin,Sem.run_bind,Sem.run_pure,Result.andThen_ok,List.map_toArray,lM,mM,hs,hx,e];refine hK _ _ (h r w' (ay.snoc h2 M.1 hC ?_ hy F h3) h4 h5);refine(au ((aa w).alloc _)).trans (kF h4 (fun g X=>?_));obtain⟨p,hh⟩:=jw M g X;exact⟨p,m,((aa w).alloc _).heap hh,hT⟩
end
theorem Oc{w w':World}{row:Option Nat}(h:w.grownBy w' row){a:Addr}{v:Value}(f:w.cell? a=some v)(d:row≠some a.block):w'.cell? a=some v:=World.grownBy.cell h f (fun e=>d e.symm)
theorem x8(B base b2:Nat)(l more:List RX.aA)(U X:Value)(w:World)(F:uO B base w U l)(Y:dI B b2 w X more)(G:0<l.length)(H:∀g o n c,X=.slice (some ⟨g,o,none⟩) n c->U.ownBlock≠some g)(hb:base<=w.heap.size)(hn:l.length+more.length<=100000)(hd:∀x∈more,0<=x.deep/\x.deep<=1000):Calls Tryz.prog 107 #[U,X] w (fun e w'=>∃I,e=.returned I/\uO B base w' I (l++more.map RX.aA.down)/\w.grownBy w' U.ownBlock):=by
 have HL:=jd F;have HM:=jd Y;have HD:=jd hd;have Z:=jd H;have HTY:=jd F.type;have JB:=jd F.lt;obtain⟨Am,cm,rfl,hlm,hcm⟩:=Y.form;obtain⟨Al,cl,rfl,hll,hcl⟩:=F.form;obtain⟨t,J⟩:∃t,(Value.slice Al l.length cl).ownBlock=t:=⟨_,rfl⟩;have m:=jd J;have WO:=jd (And.intro G hn);clear F Y hd H J G hn;go_enter Tryz.func107,Tryz.ntmps107;go_wp2_with fail;go_loopw[0,5](fun v i wr=>∃q:Nat,q<=more.length/\i=.int .i64 (q:Int)/\uO B base wr v (l++(more.take q).map RX.aA.down)/\w.grownBy wr t/\(v.ownBlock=t\/∃g,v.ownBlock=some g/\w.heap.size<=g))(fun _ i _=>more.length-(intOf i).toNat);case atStart=>exact⟨0,aL _,rfl,by rw[List.take_zero];simpa using HL.o,sV _ _,.inl m.o⟩
 case round=>
  obtain⟨q,hq,rfl,f,h,z⟩:=hrel;by_cases A:q<more.length;rotate_left
  .have hdd:decide ((q:Int)<(more.length:Int))=false:=by simp;omega
   rw[pU (by omega)]at f;have HO:=jd f;have D:=jd h;clear f h z;go_wp2_with fail;go_ret;exact⟨_,rfl,HO.o,by rw[m.o];exact D.o⟩
  have hdd:decide ((q:Int)<(more.length:Int))=true:=by simp;omega
  have hqi:(q:Int)<(more.length:Int):=by omega
  obtain⟨g,o,cs,rfl,Sb,j⟩:=HM.o.at_ A;have K:t≠some g:=by rw[<-m.o];exact Z.o g o _ _ rfl
  have L:aV [21] w wr:=kF h (fun g' hg'=>by obtain⟨cur,hc⟩:=HTY.o g' (by rw[m.o];exact hg');exact⟨cur,_,hc,by decide⟩);have p:=dE B _ _ _ _ L Sb;have d:=fun i u hu=>Oc h (j i u hu) (by exact K);have V:=jd (xC l more q A);have M:=HD.o more[q] (bK A);generalize more[q]=x at p V M;have N:(l++(more.take q).map RX.aA.down).length<=1000000:=by have:=WO.o.2;rw[ai,fP,kg];omega
  have O:0<(l++(more.take q).map RX.aA.down).length:=by have:=WO.o.1;rw[ai];omega
  generalize l++(more.take q).map RX.aA.down=acc at V f N O;obtain⟨acc',C⟩:∃a,a=l++(more.take (q+1)).map RX.aA.down:=⟨_,rfl⟩;rw[<-C]at V;have HAC:=jd C;obtain⟨Ax,cx,rfl⟩:=p.cells;have c0:=d 0 _ rfl;have c1:=d 1 _ rfl;have c2:=d 2 _ rfl;have c3:=d 3 _ rfl;have c4:=d 4 _ rfl;have c5:=d 5 _ rfl;have c6:=d 6 _ rfl;rw[fB]at c0;obtain⟨hd0,hd1⟩:=M;have hy:=p.down;have r:=(aa wr).alloc (.cells #[.int .i64 x.kind,.int .i64 (x.deep+1),.int .i64 x.lo,.int .i64 x.hi,.bool x.lazy,.bool x.neg,.slice Ax x.set.length cx] 126);have k:=f.gM (dE B) (au r) (au r);have P:=dE B _ _ _ _ (au r) hy;have HY:=jd P;have HOW:=jd k;have D:=jd h;have Q:=jd z;have afk:=jd f.lt;have hsz:w.heap.size<=wr.heap.size:=h.size;have adM:=iP _ _ c0;clear p Sb d j f h hy P k C r z L K;go_wp2_with(at_builtin;refine Vy Tryz.underlying99 Qt rfl (by decide) (by decide) (dE B) (by decide) rfl _ _ rfl base _ acc x.down _ _ HOW.o O HY.o rfl HY.o.one rfl _ rfl (by simp) N (aG hb (by simp;omega)) ?_);intro I w' h1 h2 E;have R:w.grownBy w' t:=by
   have S:=h2;refine⟨S.os.trans D.o.os,S.tape.trans D.o.tape,S.output.trans D.o.output,aG hsz (aG (by simp;omega) S.size),fun i hi T=>?_⟩;have h6:=D.o.block i hi T;refine(S.block i (by simp;omega) ?_).trans ?_
   .intro e;rcases Q.o with h7|⟨g7,h7,h8⟩
    .rw[h7]at e;exact T e
    .rw[h7]at e;injection e with e;omega
   .exact(((aa wr).alloc _).alloc _|>fun hE=>Below.block hE i (by omega)).trans h6
  have s:I.ownBlock=t\/∃g,I.ownBlock=some g/\w.heap.size<=g:=by
   rcases E with E|E
   .rw[E];exact Q.o
   .exact .inr ⟨_,E,by first|omega|(simp;omega)⟩
  rw[<-V.o]at h1;have HX:=jd (And.intro h1 (And.intro R s));clear h1 h2 E R s;go_wp2_with fail;go_roundw;case rel=>exact⟨q+1,by omega,by go_num,by rw[<-HAC.o];exact HX.o.1,HX.o.2.1,HX.o.2.2⟩
  case measure=>simp[intOf];omega
theorem Od{b:ByteArray}{k:Nat}(h:k<b.size):(signs b)[k]?=some (b[k].toNat:Int):=by
 have a:k<(signs b).length:=by rw[lN];exact h
 rw[aU a];simp[signs];rfl
theorem Vz(bs:ByteArray)(c:Int)(w:World)(B:bs.size<=1000):Calls Tryz.prog 55 #[.string bs,.int .i32 c] w (fun e w'=>e=.returned (.bool (decide (c∈signs bs)))/\w=w'):=by
 go_enter Tryz.func55,Tryz.ntmps55;go_wp2_with fail;go_loop[5](fun i=>∃k:Nat,k<=bs.size/\i=.int .i64 k/\∀j,j<k->(signs bs)[j]?≠some c)(fun i=>bs.size-(intOf i).toNat);case atStart=>exact⟨0,aL _,rfl,by intro j f;omega⟩
 case round=>
  obtain⟨k,C,rfl,a⟩:=hrel;have u:=jd a;clear a;by_cases r:k<bs.size
  .have m:=Od r;have p:=ry bs[k];by_cases d:(bs[k].toNat:Int)=c
   .have v:(wrap32 (bs[k].toNat:Int)==c)=true:=by rw[p,d];simp
    have s:((bs[k].toNat:Int)==c)=true:=by rw[d];simp
    have t:=jd (show decide (c∈signs bs)=true from bJ (tJ (by rw[m,d])));clear d m p;go_wp2_with fail;go_ret;exact⟨by rw[t.o];rfl,rfl⟩
   .have v:(wrap32 (bs[k].toNat:Int)==c)=false:=by rw[p];simpa using d
    have s:((bs[k].toNat:Int)==c)=false:=by simpa using d
    have z:=jd (show∀j,j<k+1->(signs bs)[j]?≠some c by
     intro j f;rcases Nat.lt_succ_iff_lt_or_eq.1 f with h|rfl
     .exact u.o j h
     .rw[m];intro e;injection e with e;exact d e);clear d m p;go_wp2_with fail;go_round;case rel=>exact⟨k+1,by omega,by go_num,z.o⟩
    case measure=>simp[intOf];omega
  .have t:=jd (show decide (c∈signs bs)=false from bR (by intro A;obtain⟨j,f,e⟩:=um.1 A;exact u.o j (by rw[lN]at f;omega) (by rw[aU f,e])));go_wp2_with fail;go_ret;exact⟨by rw[t.o];rfl,rfl⟩
theorem Ll(r:Int)(w:World):Calls Tryz.prog 55 #[.string {data:=#[42,43,63,123]},.int .i32 r] w (Vx (.bool (decide (r=42\/r=43\/r=63\/r=123))) w):=by
 refine(Vz ⟨#[42,43,63,123]⟩ r w (by decide)).mono ?_;rintro e a⟨rfl,rfl⟩;refine⟨aH ?_,aa _⟩;have e:signs ⟨#[42,43,63,123]⟩=[42,43,63,123]:=by decide
 rw[e];simp
theorem Qn.bZ{w0 w:World}{rb:Nat}{sv:Value}{s:List Int}{st:RX.St}(h:Qn w0 rb sv s w st):Qn w0 rb sv s (w.setCell ⟨rb,1,none⟩ (.int .i64 ((st.at_:Int)+1))) (st.bump 1):=h.bump 1
namespace RX
def eQ(c:Int):List Int×Bool:=match dA c with
|some l=>(l,false)
|none=>match dA (lower c)with
 |some l=>(l,true)
 |none=>match eF c with
  |some x=>([x,x],false)
  |none=>([],true)
theorem AY{c:Int}(h:c≠100/\c≠119/\c≠115/\c≠68/\c≠87/\c≠83):lower c≠100/\lower c≠119/\lower c≠115:=by
 unfold lower;split
 .rename_i a;rcases a with a|⟨a,-⟩<;>(have:=within_iff.1 a;omega)
 .omega
theorem EX{c:Int}(h:c≠100/\c≠119/\c≠115):dA c=none:=by unfold dA;rw[ae h.1,ae h.2.1,ae h.2.2]
theorem Lm{c:Int}(h:c≠100/\c≠119/\c≠115/\c≠68/\c≠87/\c≠83):eQ c=match eF c with
|some x=>([x,x],false)
|none=>([],true):=by unfold eQ;rw[EX ⟨h.1,h.2.1,h.2.2.1⟩];simp only;rw[EX (AY h)]
end RX
section
variable{w0:World}{rb:Nat}{sv:Value}{s:List Int}
theorem EY(j:World)(st:RX.St)(v:Qn w0 rb sv s j st)(B:st.at_<=1000):Calls Tryz.prog 153 #[.pointer (some ⟨rb,0,none⟩)] j (QV (.int .i64 (RX.must s st).1) rb sv j (RX.must s st).2):=by
 have k:=jd v;have w:=jd (aJ j rb);obtain⟨c,f⟩:∃c,RX.aR s st 0=c:=⟨_,rfl⟩;have z:=jd f;clear v;by_cases m:48<=c/\c<=57
 .have r:=jd (show RX.within c 48 57=true from within_iff.2 m);have i:RX.must s st=(c-48,st.bump 1):=by unfold RX.must RX.digit;rw[f,ae (by rw[ae (by omega)];omega),ae (by omega)]
  rw[i];obtain⟨C,D⟩:=m;clear i f;go_enter Tryz.func153,Tryz.ntmps153;go_upto_region 5 with(first|(go_at_call 106;refine(dz _ _ k.o).mono ?_;rw[show RX.aR s st 0=c from z.o];rintro e E⟨rfl,a⟩;have d:=jd (Qn.ex k.o a);have t:=jd (eO w.o (iO a rb));have u:=jd a;clear a)|(go_at_call 25;refine(AV c _).mono ?_;rw[r.o];rintro e F⟨rfl,rfl⟩));have c1:=d.o.blk.c1;have f1:=d.o.blk.fr 1;go_wp2_with fail;go_ret;exact⟨rfl,(Qn.bZ d.o).blk,t.o.trans ((aJ _ _).set _)⟩
 .have r:=jd (show RX.within c 48 57=false from Bool.eq_false_iff.2 (fun h=>m (within_iff.1 h)));have i:RX.must s st=(0,st.fail 5 st.at_):=by unfold RX.must RX.digit;rw[f,av (by split<;>omega)]
  rw[i];clear i f m;go_enter Tryz.func153,Tryz.ntmps153;go_upto_region 3 with(first|(go_at_call 106;refine(dz _ _ k.o).mono ?_;rw[show RX.aR s st 0=c from z.o];rintro e E⟨rfl,a⟩;have d:=jd (Qn.ex k.o a);have t:=jd (eO w.o (iO a rb));have u:=jd a;clear a)|(go_at_call 25;refine(AV c _).mono ?_;rw[r.o];rintro e F⟨rfl,rfl⟩));have c1:=d.o.blk.c1;go_wp2_with(go_at_call 91;refine(iK _ _ 5 (st.at_:Int) d.o).mono ?_;rintro e J⟨rfl,A,p⟩;have G:=jd (Qn.step d.o p A);have H:=jd (eO t.o p);have I:=jd p;clear A p);go_ret;exact⟨rfl,G.o.blk,H.o⟩
def Lp(c:Int)(rb:Nat)(sv:Value)(w:World)(st':RX.St)(e:Ending)(w':World):Prop:=∃v,e=.returned (.tuple #[v,.bool (RX.eQ c).2])/\aT 21 1 Cc w.heap.size w' v (RX.eQ c).1/\QS rb sv w' st'/\Only w w' rb
theorem Lp.lit{c:Int}{w w':World}{a:RX.St}(l:List Int)(b:Bool)(h:RX.eQ c=(l,b))(e:l.length<=1000)(f:QS rb sv w' a)(d:Only w w' rb)(n:Nat)(i:n=l.length):Lp c rb sv w a (.returned (.tuple #[.slice (some ⟨w'.heap.size,0,none⟩) n n,.bool b])) (w'.alloc (.cells (l.map (Value.int .i32)).toArray 21)):=by refine⟨_,by rw[h],?_,((aa w').alloc _).heap f,d.alloc _⟩;rw[h];exact BD w' l _ _ rfl i d.size e
theorem Lp.none_{c:Int}{w w':World}{a:RX.St}(h:RX.eQ c=([],true))(d:QS rb sv w' a)(e:Only w w' rb):Lp c rb sv w a (.returned (.tuple #[.slice none 0 0,.bool true])) w':=by refine⟨_,by rw[h],?_,d,e⟩;rw[h];exact aS
theorem uP(G:World)(st:RX.St)(R:Qn w0 rb sv s G st)(ha1:st.at_<=1000):Calls Tryz.prog 152 #[.pointer (some ⟨rb,0,none⟩)] G (Lp (RX.aR s (st.bump 1) 0) rb sv G (st.bump 2)):=by
 have O:=jd R;have X:=jd (aJ G rb);obtain⟨c,P⟩:∃c,RX.aR s (st.bump 1) 0=c:=⟨_,rfl⟩;obtain⟨low,r⟩:∃x,RX.lower c=x:=⟨_,rfl⟩;have J:c=-1\/0<=c:=by
  rw[<-P];unfold RX.aR;rcases H:s[(st.bump 1).at_+0]? with _|x
  .exact .inl rfl
  .exact .inr (R.pos x (tJ H))
 have f:=jd r;rw[P];have HC:=jd P;clear R P r;go_enter Tryz.func152,Tryz.ntmps152;have c1:=O.o.blk.c1;have f1:=O.o.blk.fr 1;go_upto_region 2 with fail;have Q:=jd (Qn.bZ O.o);have Y:=jd (eO X.o ((aJ G rb).set (o:=1) (.int .i64 ((st.at_:Int)+1))));generalize G.setCell _ _=w2 at Q Y⊢;obtain⟨k,d⟩:∃x,RX.St.bump st 1=x:=⟨_,rfl⟩;have ha2:k.at_<=1001:=by rw[<-d];show st.at_+1<=_;omega
 rw[d]at Q;have K:=jd d;clear c1 f1 d O X;have HN:=jd (show RX.aR s k 0=c by rw[<-K.o];exact HC.o);go_upto_region 4 with(first|(go_at_call 106;refine(dz _ _ Q.o).mono ?_;rw[show RX.aR s k 0=c from HN.o];rintro e w3⟨rfl,H⟩;have I1:=jd (Qn.ex Q.o H);have gz:=jd (eO Y.o (iO H rb));have sZ:=jd H;clear H)|(go_at_call 158;refine(Nr c _).mono ?_;rw[f.o];rintro e wz⟨rfl,n,rfl⟩;have L:=jd (Qn.ex I1.o ((aa _).drewN n));have S:=jd (eO gz.o ((aJ _ _).drewN n))));generalize w3.drewN _=Z at L S⊢;have c1:=L.o.blk.c1;have f1:=L.o.blk.fr 1;go_upto_region 6 with fail;have i:=jd (Qn.bZ L.o);have m:=jd (eO S.o ((aJ Z rb).set (o:=1) (.int .i64 ((k.at_:Int)+1))));generalize Z.setCell _ _=w5 at i m⊢;obtain⟨Gb,d⟩:∃x,RX.St.bump k 1=x:=⟨_,rfl⟩;have ha5:Gb.at_<=1002:=by rw[<-d];show k.at_+1<=_;omega
 rw[d]at i;have T:=jd d;clear c1 f1 d L S;have HS:=jd (show Gb=st.bump 2 by rw[<-T.o,<-K.o];rfl);rw[HS.o]at i;have U:=jd (fun w=>Lc c w);by_cases u:c=100
 .subst u;obtain rfl:low=RX.lower 100:=f.o.symm;have a:RX.lower 100=100:=by decide
  rw[a];clear a f;go_wp2_with fail;go_ret2;exact Lp.lit (c:=100) [48,57] false (by decide) (by decide) i.o.blk m.o _ rfl
 by_cases v:c=68
 .subst v;obtain rfl:low=RX.lower 68:=f.o.symm;have a:RX.lower 68=100:=by decide
  rw[a];clear a f;go_wp2_with fail;go_ret2;exact Lp.lit (c:=68) [48,57] true (by decide) (by decide) i.o.blk m.o _ rfl
 by_cases p:c=119
 .subst p;obtain rfl:low=RX.lower 119:=f.o.symm;have a:RX.lower 119=119:=by decide
  rw[a];clear a f;go_wp2_with fail;go_ret2;exact Lp.lit (c:=119) [97,122,65,90,48,57,95,95] false (by decide) (by decide) i.o.blk m.o _ rfl
 by_cases A:c=87
 .subst A;obtain rfl:low=RX.lower 87:=f.o.symm;have a:RX.lower 87=119:=by decide
  rw[a];clear a f;go_wp2_with fail;go_ret2;exact Lp.lit (c:=87) [97,122,65,90,48,57,95,95] true (by decide) (by decide) i.o.blk m.o _ rfl
 by_cases B:c=115
 .subst B;obtain rfl:low=RX.lower 115:=f.o.symm;have a:RX.lower 115=115:=by decide
  rw[a];clear a f;go_wp2_with fail;go_ret2;exact Lp.lit (c:=115) [32,32,9,9,10,10] false (by decide) (by decide) i.o.blk m.o _ rfl
 by_cases C:c=83
 .subst C;obtain rfl:low=RX.lower 83:=f.o.symm;have a:RX.lower 83=115:=by decide
  rw[a];clear a f;go_wp2_with fail;go_ret2;exact Lp.lit (c:=83) [32,32,9,9,10,10] true (by decide) (by decide) i.o.blk m.o _ rfl
 by_cases M:c=110
 .subst M;obtain rfl:low=RX.lower 110:=f.o.symm;have a:RX.lower 110=110:=by decide
  rw[a];clear a f;go_wp2_with fail;go_ret2;exact Lp.lit (c:=110) [10,10] false (by decide) (by decide) i.o.blk m.o _ rfl
 by_cases h:c=116
 .subst h;obtain rfl:low=RX.lower 116:=f.o.symm;have a:RX.lower 116=116:=by decide
  rw[a];clear a f;go_wp2_with fail;go_ret2;exact Lp.lit (c:=116) [9,9] false (by decide) (by decide) i.o.blk m.o _ rfl
 have t:=RX.AY (c:=c) ⟨u,p,B,v,A,C⟩;rw[f.o]at t;have j:=RX.Lm (c:=c) ⟨u,p,B,v,A,C⟩;have afl:(low==100)=false:=by simpa using t.1
 have afm:(low==119)=false:=by simpa using t.2.1
 have afn:(low==115)=false:=by simpa using t.2.2
 have afo:(c==110)=false:=by simpa using M
 have afp:(c==116)=false:=by simpa using h
 rcases J with rfl|J
 .have D:=jd (show RX.eQ (-1)=([],true)by decide);clear j t;go_wp2_with fail;go_ret2;exact Lp.none_ D.o i.o.blk m.o
 have hneg:decide (c<0)=false:=bR (by omega);have E:c≠-1:=by omega
 by_cases F:RX.bE c=4
 .have D:=jd (show RX.eQ c=([c,c],false)by rw[j];unfold RX.eF;rw[ae M,ae h,ae E,av (.inl F)]);have H4:=jd F;clear j t F;go_wp2_with(go_at_call 159;refine(U.o _).mono ?_;rw[H4.o];rintro e w6⟨rfl,rfl⟩);go_ret2;exact Lp.lit [c,c] false D.o (by simp) i.o.blk m.o _ rfl
 obtain⟨z,I⟩:∃z,RX.bE c=z:=⟨_,rfl⟩;have HZ:=jd I;rw[I]at F;have bz4:(z==4)=false:=by simpa using F
 by_cases N:z=1
 .have D:=jd (show RX.eQ c=([c,c],false)by rw[j];unfold RX.eF;rw[ae M,ae h,ae E,av (.inr (I.trans N))]);have V:(z==1)=true:=by simpa using N
  clear j t F I N;go_wp2_with(go_at_call 159;refine(U.o _).mono ?_;rw[HZ.o];rintro e w6⟨rfl,rfl⟩);go_ret2;exact Lp.lit [c,c] false D.o (by simp) i.o.blk m.o _ rfl
 .have D:=jd (show RX.eQ c=([],true)by rw[j];unfold RX.eF;rw[ae M,ae h,ae E,ae (by rw[I];omega)]);have V:(z==1)=false:=by simpa using N
  clear j t F I N;go_wp2_with(go_at_call 159;refine(U.o _).mono ?_;rw[HZ.o];rintro e w6⟨rfl,rfl⟩);go_ret2;exact Lp.none_ D.o i.o.blk m.o
end
def TW(tb:Nat)(sv:Value)(ts:List Int)(b:Nat)(w:World)(e:Ending)(w':World):Prop:=∃v l j,e=.returned v/\aT 21 1 Cc (tb+1) w' v l/\l.length<=b/\j<=ts.length/\TS tb sv w' j/\Only w w' tb
section
variable{w0:World}{tb:Nat}{sv:Value}{ts:List Int}
theorem Ff(bs:List ByteArray)(n b:Nat)(w:World)(i:Nat)(j:rG w0 tb sv ts w i)(d:1<=bs.length)(f:bs.length<=100)(h:∀x∈bs,x.size<=100)(r:∀x∈bs.map signs,x.length<=b)(s:n=bs.length):Calls Tryz.prog 33 #[.pointer (some ⟨tb,0,none⟩),.slice (some ⟨w.heap.size,0,none⟩) n n] (w.alloc (.cells (bs.map Value.string).toArray 9)) (TW tb sv ts b (w.alloc (.cells (bs.map Value.string).toArray 9))):=by obtain⟨a,k⟩:∃a,TP.one ts i (bs.map signs)=a:=⟨_,rfl⟩;have m:=TP.one_le (bs.map signs) j.le;have p:=TP.fZ (ts:=ts) (i:=i) (l:=bs.map signs) (n:=b) r;rw[k]at m p;refine(ku bs n (bs.map signs) a w i j d f h s rfl k).mono ?_;rintro e A⟨v,rfl,t,u,z⟩;exact⟨v,a.1,a.2,rfl,t,p,m,u,z⟩
def bsN:List ByteArray:=[⟨#[49]⟩,⟨#[50]⟩,⟨#[51]⟩,⟨#[48]⟩,⟨#[49]⟩,⟨#[50]⟩,⟨#[48,55]⟩]
def bsV:List ByteArray:=[⟨#[84,77,95,83,69,76,69,67,84,69,68,95,84,69,88,84]⟩,⟨#[84,77,95,67,85,82,82,69,78,84,95,87,79,82,68]⟩,⟨#[84,77,95,76,73,78,69,95,78,85,77,66,69,82]⟩,⟨#[82,65,78,68,79,77]⟩,⟨#[85,85,73,68]⟩,⟨#[67,76,73,80,66,79,65,82,68]⟩,⟨#[67,85,82,82,69,78,84,95,89,69,65,82,95,83,72,79,82,84]⟩,⟨#[84,77,95,70,73,76,69,78,65,77,69,95,66,65,83,69]⟩,⟨#[110,111,116,104,105,110,103]⟩,⟨#[82,65,78,68,79,77,95,72,69,88]⟩,⟨#[67,85,82,82,69,78,84,95,68,65,89,95,78,65,77,69]⟩]
theorem Yx(w:World)(i:Nat)(m:rG w0 tb sv ts w i):Calls Tryz.prog 34 #[.pointer (some ⟨tb,0,none⟩)] w (TW tb sv ts 2 w):=by have p:=jd (Ff bsN 7 2 w i m (by decide) (by decide) (by decide) (by decide) rfl);go_enter Tryz.func34,Tryz.ntmps34;go_wp2_with(go_at_call 33;refine p.o.mono ?_;rintro e s⟨v,l,j,rfl,a,d,f,h,k⟩;have r:=jd (And.intro a (And.intro d (And.intro f (And.intro h k))));clear a d f h k);go_ret;obtain⟨a,d,f,h,k⟩:=r.o;exact⟨v,l,j,rfl,a,d,f,h,((aJ w tb).alloc _).trans k⟩
theorem Sn(w:World)(i:Nat)(m:rG w0 tb sv ts w i):Calls Tryz.prog 36 #[.pointer (some ⟨tb,0,none⟩)] w (TW tb sv ts 21 w):=by have p:=jd (Ff bsV 11 21 w i m (by decide) (by decide) (by decide) (by decide) rfl);go_enter Tryz.func36,Tryz.ntmps36;go_wp2_with(go_at_call 33;refine p.o.mono ?_;rintro e s⟨v,l,j,rfl,a,d,f,h,k⟩;have r:=jd (And.intro a (And.intro d (And.intro f (And.intro h k))));clear a d f h k);go_ret;obtain⟨a,d,f,h,k⟩:=r.o;exact⟨v,l,j,rfl,a,d,f,h,((aJ w tb).alloc _).trans k⟩
end
end
end Go.Proofs.YtcogknbbbjnaiaaGreatDoor
