/- For ShowTells: what the texts XShZc XShZk XShPa XShPe XShBb XShPh XShPb XShPd of wip/tpl say. -/
import Derived.Test.YtcogknbbbjnaiaaGreatDoorAq
import Derived.Deep.AppendSrc
set_option maxRecDepth 100000
set_option maxHeartbeats 4000000
namespace Go.Proofs.YtcogknbbbjnaiaaGreatDoor
open Go.RowKit
abbrev lg:=@Tryz.underlying22
def SV(W0:World)(_:World)(cs:List Value)(x:SH.dC):Prop:=∃vt vi vp vf,cs=De x vt vi vp vf/\nS W0 x vt vi vp vf
abbrev FK(W0:World)(B:Nat)(w:World)(v:Value)(l:List SH.dC):Prop:=ay 28 9 (SV W0) B w v l
theorem mG(W0:World)(T:List TypeId):fO T (SV W0):=fun _ _ _ _ _ h=>h
theorem zD(W0:World):∀w cs x,SV W0 w cs x->cs.length=9/\∀u∈cs,u.oneCell'=true:=by rintro w cs x⟨vt,vi,vp,vf,rfl,h⟩;obtain⟨At,a,d,e,f,i,j,cf,rfl,rfl,rfl,rfl,-⟩:=h.shape;exact⟨rfl,by simp[De,Value.oneCell']⟩
theorem fK:(Tryz.prog.info? 28).map (fun i=>(i.zero,i.size,i.bytes))=some (some (.agg #[.int .i64 0,.int .i64 0,.int .i64 0,.slice none 0 0,.slice none 0 0,.slice none 0 0,.slice none 0 0,.bool false,.bool false]),9,128):=by kernel_rfl
theorem aT.KT{W0 w:World}{B:Nat}{v:Value}{l:List SH.dC}(h:aT 28 9 (SV W0) B w v l)(f:Ext W0 w):jH w v l:=by
 obtain⟨A,c,rfl,j,m,d,p⟩:=h;refine⟨A,c,rfl,j,m,fun k x e=>?_,d⟩;cases A with
 |none=>have:=d rfl;have:=(dh.1 e).1;omega
 |some r=>obtain⟨g,o,a,rfl,_,s,_,t⟩:=p r rfl;obtain⟨E,⟨vt,vi,vp,vf,rfl,z⟩,C⟩:=t k x e;exact⟨g,o,rfl,vt,vi,vp,vf,z.ext f,fun i u D=>(cell_of_row w g _ a 28 (0,0) s).trans (C i u D)⟩
theorem ZH:∀(a:List (List Value)),(∀cs∈a,cs.length=9)->a.flatten.length=a.length*9/\(∀k i cs u,a[k]?=some cs->cs[i]?=some u->a.flatten[k*9+i]?=some u)/\∀j u,a.flatten[j]?=some u->∃k i cs,j=k*9+i/\i<9/\a[k]?=some cs/\cs[i]?=some u
|[],_=>⟨rfl,by intro k i cs u h;simp at h,by intro j u h;simp at h⟩
|c::r,h=>by
 have s:=h c (by simp);obtain⟨t,v,w⟩:=ZH r (fun cs e=>h cs (by simp[e]));refine⟨by rw[xk,ai,t,s,aF];omega,fun k i cs u f hi=>?_,fun j u d=>?_⟩
 .have z:i<cs.length:=(dh.1 hi).1;rw[xk];cases k with
  |zero=>simp at f;subst f;rw[lK (by omega)];simpa using hi
  |succ k=>rw[nN (by omega)];have:=v k i cs u (by simpa using f) hi;rw[<-this];congr 1;omega
 .rw[xk]at d;rcases fC j c.length with m|p
  .rw[lK m]at d;exact⟨0,j,c,by omega,by omega,rfl,d⟩
  .rw[nN p]at d;obtain⟨k,i,cs,D,A,B,C⟩:=w _ u d;exact⟨k+1,i,cs,by omega,A,by simpa using B,C⟩
theorem FC{α:Type}{n:Nat}{P:Nat->α->Prop}(h:∀k,k<n->∃x,P k x):∃l:List α,l.length=n/\∀k x,l[k]?=some x->P k x:=by
 induction n with
 |zero=>exact⟨[],rfl,by intro k x h;simp at h⟩
 |succ n j=>
  obtain⟨l,m,p⟩:=j (fun k i=>h k (by omega));obtain⟨x,r⟩:=h n (by omega);refine⟨l++[x],by simp[m],fun k y a=>?_⟩;rcases fC k l.length with d|f
  .rw[lK d]at a;exact p k y a
  .rw[nN f]at a;have i:k-l.length=0:=by
    rcases xm (k-l.length)with e|e
    .exact e
    .rw[gD (by simp;omega)]at a;cases a
   rw[i]at a;simp at a;subst a;have:k=n:=by omega
   rw[this];exact r
theorem SS{w W0:World}{B:Array Oper}{rest:List Oper}{o:Oper}{a:Act}{Q:Exit->Act->World->Prop}(C:o.guard=none)(s x:Operand)(V:o.op=.call {callee:=.builtin .append,args:=#[s,x],argTypes:=#[22,22]})(D:Value)(l:List SH.dC)(X:a.eval s=.slice none 0 0)(Y:a.eval x=D)(E:jH W0 D l)(I:Ext W0 w)(hn:l.length<=1000000000)(h:∀G w',FK W0 w.heap.size w' G l->w.grownBy w' none->wpList Tryz.prog B Q rest (a.put o.dst G) w'):wpList Tryz.prog B Q (o::rest) a w:=by
 obtain⟨Z,hi,J,K,L⟩:=fD fK;obtain⟨A,c,rfl,hl,hc,t,M⟩:=id E;cases A with
 |none=>obtain rfl:=M rfl;obtain rfl:l=[]:=Bv (by omega);refine Bw C s x 22 V w.heap.size 28 Z 9 lg hi (.slice none 0 0) 0 [] X (World.ownsRow_nil _ _ _ _) Y ?_;exact h _ w dO (sV _ _)
 |some ad=>
  obtain⟨d,F,e⟩:=FC (n:=l.length) (P:=fun k p=>∃f,l[k]?=some f/\SV W0 w p f/\∀(i:Nat)(u:Value),p[i]?=some u->w.cell? (ad.add (k*9+i))=some u) (fun k m=>by obtain⟨b,o,N,vt,vi,vp,vf,r,O⟩:=t k _ (aU m);injection N with N;subst N;exact⟨_,_,aU m,⟨vt,vi,vp,vf,rfl,r⟩,fun i u v=>by rw[Go.WideShapes.add_plain,<-Nat.add_assoc];exact I.cell (O i u v)⟩);have h5:∀p∈d,p.length=9:=by intro p R;obtain⟨k,m,rfl⟩:=um.1 R;obtain⟨f,_,r,_⟩:=e k _ (aU m);exact(zD W0 _ _ _ r).1
  obtain⟨S,T,U⟩:=ZH d h5;refine wpList_append_own_at w C s x _ V w.heap.size 28 Z _ 9 128 lg hi J K L rfl (by decide) (.slice none 0 0) 0 [] X (World.ownsRow_nil _ _ _ _) ad l.length c d.flatten Y (by rw[S,F]) ?_ ?_ (by unfold maxLen;omega) (by omega) (az _) ?_
  .intro j u hj;obtain⟨k,i,p,rfl,_,h6,h7⟩:=U j u hj;obtain⟨f,_,_,h8⟩:=e k p h6;exact h8 i u h7
  .intro u v;obtain⟨p,R,v⟩:=List.mem_flatten.1 v;obtain⟨k,m,rfl⟩:=um.1 R;obtain⟨f,_,r,_⟩:=e k _ (aU m);exact(zD W0 _ _ _ r).2 u v
  .intro G w' r O _ _;refine h G w' ⟨d.flatten,?_,fun k y m=>?_⟩ O
   .rw[BA,Nat.zero_add]at r;exact r
   .have z:k<d.length:=by rw[F];exact(dh.1 m).1
    obtain⟨f',H,h4,_⟩:=e k _ (aU z);rw[m]at H;injection H with H;subst H;exact⟨_,h4,h5 _ (bK z),fun i u v=>T k i _ u (aU z) v⟩
theorem ay.P5{W0 w:World}{base:Nat}{A:Option Addr}{n c:Nat}{l:List SH.dC}(h:FK W0 base w (.slice A n c) l){k:Nat}(F:k<l.length):∃g a vt vi vp vf,A=some ⟨g,0,none⟩/\base<=g/\w.heap[g]?=some (.cells a 28 (0,0))/\nS W0 l[k] vt vi vp vf/\(∀(i:Nat)(u:Value),(De l[k] vt vi vp vf)[i]?=some u->a[k*9+i]?=some u)/\∀(w':World)(u:Value)(i:Nat)(y:SH.dC),i<9->SV W0 w ((De l[k] vt vi vp vf).set i u) y->w'.heap[g]?=some (.cells (a.setIfInBounds (k*9+i) u) 28 (0,0))->FK W0 base w' (.slice A n c) (l.set k y):=by
 obtain⟨flat,⟨G,M⟩,H⟩:=h;rcases M with⟨I,Y⟩|⟨g,N,a,I,J,O,v,B,C,p⟩
 .omega
 .injection I with P Q R;subst P Q R;obtain⟨_,⟨vt,vi,vp,vf,rfl,D⟩,K,r⟩:=H k _ (aU F);refine⟨g,a,vt,vi,vp,vf,rfl,J,O,D,fun i u S=>?_,fun w' u i y hi T E=>?_⟩
  .have t:=r i u S;rw[<-p,pY]at t;split at t
   .simpa using t
   .cases t
  .refine⟨flat.set (k*9+i) u,⟨by rw[gK,gK];exact G,.inr ⟨g,c,_,by rw[gK],J,E,by rw[gK];exact v,B,by rw[Array.size_setIfInBounds];exact C,?_⟩⟩,fun j x f=>?_⟩
   .rw[gK,Array.toList_setIfInBounds,List.take_set,p]
   .by_cases e:k=j
    .subst e;rw[uH F]at f;injection f with f;subst f;refine⟨_,T,by rw[gK];exact K,fun m z d=>?_⟩;by_cases s:i=m
     .subst s;rw[uH (by rw[K];exact hi)]at d;rw[uH (by rw[G];omega)];exact d
     .rw[oP s]at d;rw[oP (by omega)];exact r m z d
    .rw[oP e]at f;obtain⟨U,V,L,X⟩:=H j x f;refine⟨U,V,L,fun m z d=>?_⟩;have Z:m<9:=by rw[<-L];exact(dh.1 d).1
     rw[oP (by omega)];exact X m z d
theorem aT.clip{α:Type}{t sz:Nat}{C:World->List Value->α->Prop}{B:Nat}{w:World}{A:Option Addr}{n c:Nat}{xs:List α}(h:aT t sz C B w (.slice A n c) xs){m d:Nat}(J:m<=xs.length)(K:m<=d)(i:d<=c):aT t sz C B w (.slice A m d) (xs.take m):=by
 obtain⟨L,M,r,N,O,s,u⟩:=h;injection r with v z D;subst v z D;have a:(xs.take m).length=m:=by rw[kg];omega
 refine⟨A,d,by rw[a],by omega,by omega,fun e=>by have:=s e;omega,fun E j=>?_⟩;obtain⟨g,o,p,rfl,F,G,H,I⟩:=u E j;refine⟨g,o,p,rfl,F,G,aG (Nat.add_le_add_left (tC sz i) o) H,fun k x f=>?_⟩;rw[pY]at f;split at f
 .exact I k x f
 .cases f
theorem Jq{P:Program}{t e:TypeId}{i:TypeInfo}(a:P.underlying t=some (.slice e))(hi:P.info? e=some i)(A:Option Addr){n c m:Nat}(f:m<=c)(W:World):(Instr.slice t (.slice A n c) none (some (.int .i64 (m:Int))) (some (.int .i64 (m:Int)))).run P W=.ok (.slice A m m) W:=by
 have d:(m:Int)<=c:=by omega
 simp[Instr.slice,Instr.sliceBounds,run_underlying a,sizeOf,typeInfo,hi,run_sliceBound,d];intro _;cases A<;>simp[Addr.add]
section
variable{α:Type}{P:Program}{w:World}{ops:Array Oper}{o:Oper}{a:Act}{K:Act->World->Prop}{Q:Exit->Act->World->Prop}{E:Prop}
theorem QF{t d sz bytes:Nat}{z:Value}(M:P.underlying t=some (.slice d))(nC:(P.info? d).map (fun i=>(i.zero,i.size,i.bytes))=some (some z,sz,bytes))(Z:z.cells.size=sz)(hby:bytes<=1000){C:World->List Value->α->Prop}(hC:fO [] C)(F:∀w cs x,C w cs x->cs.length=sz/\∀u∈cs,u.oneCell'=true)(s x:Operand)(ho:o.op=.call {callee:=.builtin .append,args:=#[s,x],argTypes:=#[t,t]})(B B2:Nat)(g k:Nat)(N:Value)(xs ys:List α)(e:aT d sz C B w (.slice (some ⟨g,0,none⟩) k k) xs)(f:aT d sz C B2 w N ys)(hs:a.eval s=.slice (some ⟨g,0,none⟩) k k)(hx:a.eval x=N)(hn:xs.length+ys.length<=1000000000)(h:∀v' w',aT d sz C 0 w' v' (xs++ys)->Ext w w'->K (a.put o.dst v') w'):Oper.wp P o a w K Q:=by
 obtain⟨O,hi,hz0,R,hz2⟩:=fD nC;obtain⟨A,c,rfl,hlc,-⟩:=f.form;have X:k=xs.length:=by obtain⟨_,_,hv,_⟩:=e;injection hv
 by_cases h0:ys=[]
 .subst h0;have G:Src P O.size t (.slice A ([]:List α).length c) 0 [] w:=by
   cases A with
   |none=>exact Src.ofNil w M c
   |some Y=>exact Src.ofSlice w M Y 0 c [] (by simp) (by intro j u hu;simp at hu) (by simp)
  have m:=run_append_room_src (P:=P) w t t o.type d O M hi g 0 k k (.slice A ([]:List α).length c) 0 [] G (by omega) (by intro j L;simp at L) (by intro j L;simp at L);have hh:=h (.slice (some ⟨g,0,none⟩) k k) w (by rw[iU];exact e.weaken (aL _)) (aa w);unfold Oper.wp execOp;simp only[ho,resolve,invoke,builtin,Sem.run_bind,Sem.run_pure,Result.andThen_ok,List.map_toArray,lM,mM,hs,hx,m];exact hh
 .cases A with
  |none=>obtain⟨A',c',hv,hl,hc,hn0,-⟩:=f;injection hv with e1 e2 e3;subst e1 e3;have:=hn0 rfl;exact absurd (Bv (by omega)) h0
  |some Y=>
   have hy0:0<ys.length:=gq.2 h0;obtain⟨p,hcl,h5,hy,S,H,h1⟩:=qN F f;obtain⟨v,hdl,h6,hx',I,D,-⟩:=qN F e;have G:Src P O.size t (.slice (some Y) ys.length c) ys.length p.flatten w:=Src.ofSlice w M Y _ c _ (by rw[R];exact S) H h1;have T:=run_firstCells_some (P:=P) w.drew O.size k ⟨g,0,none⟩ k k v.flatten (by rw[R,X];exact I) (by simpa using D);have m:=run_append_grow_src (P:=P) w t t o.type d O z M hi hz0 (some ⟨g,0,none⟩) k k v.flatten T _ _ _ G (by omega) (by omega) (growslice_fits (by omega) (by rw[hz2,X];exact aG (yC hn hby) (by omega)));have hge:=grownCap_ge w (k+ys.length) k d;have hcm:grownCap w (k+ys.length) k d<=maxLen:=grownCap_le_maxLen w (k+ys.length) k d (by unfold maxLen;omega);have r:(v.flatten++p.flatten).length=(k+ys.length)*sz:=by rw[ai,I,S,<-X,pJ]
   have U:Ext w (w.drew.alloc (.cells ((v.flatten++p.flatten).toArray++Builtin.zeroCells z.cells (grownCap w (k+ys.length) k d-(k+ys.length))) d)):=(aa w).drew.alloc _;have V:(w.drew.alloc (.cells ((v.flatten++p.flatten).toArray++Builtin.zeroCells z.cells (grownCap w (k+ys.length) k d-(k+ys.length))) d)).ownsRow 0 d sz (.slice (some ⟨w.heap.size,0,none⟩) (k+ys.length) (grownCap w (k+ys.length) k d)) (xs.length+ys.length) (v.flatten++p.flatten):=by
    rw[<-X];refine⟨r,.inr ⟨w.heap.size,_,_,rfl,aL _,aB w.drew _,hge,hcm,?_,?_⟩⟩
    .rw[Array.size_append,size_zeroCells,Z,List.size_toArray,r,<-pJ];congr 1;omega
    .rw[Array.toList_append,<-r];exact List.take_left
   have h2:∀k x,xs[k]?=some x->∃cs,C w cs x/\cs.length=sz/\∀i u,cs[i]?=some u->v.flatten[k*sz+i]?=some u:=by
    intro j x L;have J:j<v.length:=by rw[hdl];exact(dh.1 L).1
    obtain⟨-,hf,-⟩:=Il v h6;exact⟨v[j],hx' j _ _ (aU J) L,h6 _ (bK J),fun i u hu=>hf j i _ u (aU J) hu⟩
   have hh:=h _ _ (ay.plus h2 I hC (au U) hcl h5 hy V).sl U;unfold Oper.wp execOp;simp only[ho,resolve,invoke,builtin,Sem.run_bind,Sem.run_pure,Result.andThen_ok,List.map_toArray,lM,mM,hs,hx,m];exact hh
theorem SY{t e sz bytes:Nat}{z:Value}(F:P.underlying t=some (.slice e))(G:(P.info? e).map (fun i=>(i.zero,i.size,i.bytes))=some (some z,sz,bytes))(p:z.cells.size=sz)(r:bytes<=1000){C:World->List Value->α->Prop}(H:fO [] C)(f:∀w cs x,C w cs x->cs.length=sz/\∀u∈cs,u.oneCell'=true)(v:o.guard=none)(s x:Operand)(I:o.op=.call {callee:=.builtin .append,args:=#[s,x],argTypes:=#[t,t]})(B A:Nat)(g k:Nat)(d:Value)(xs ys:List α)(j:aT e sz C B w (.slice (some ⟨g,0,none⟩) k k) xs)(m:aT e sz C A w d ys)(J:a.eval s=.slice (some ⟨g,0,none⟩) k k)(L:a.eval x=d)(M:xs.length+ys.length<=1000000000)(h:∀D w',aT e sz C 0 w' D (xs++ys)->Ext w w'->K (a.put o.dst D) w'):if Region.wanted o (yielded ops a.tmps)=true then Oper.wp P o a w K Q else E:=by
 have N:Region.wanted o (yielded ops a.tmps)=true:=by simp[Region.wanted,v]
 rw[av N];exact QF F G p r H f s x I B A g k d xs ys j m J L M h
end
theorem aT.We{α:Type}{t sz:Nat}{C:World->List Value->α->Prop}{B:Nat}{w:World}{A:Option Addr}{n c:Nat}{xs:List α}(h:aT t sz C B w (.slice A n c) xs){k:Nat}(N:k<=xs.length):aT t sz C B w (.slice (iD A c k sz) (n-k) (c-k)) (xs.drop k):=by
 obtain⟨O,P,F,Q,R,G,z⟩:=h;injection F with p r H;subst p r H;have d:(xs.drop k).length=xs.length-k:=jU;refine⟨iD A c k sz,c-k,by rw[d],by rw[d];omega,by omega,fun e=>?_,fun I a=>?_⟩
 .unfold iD at e;split at e
  .omega
  .cases A with
   |none=>have:=G rfl;omega
   |some _=>cases e
 .unfold iD at a;split at a
  .obtain⟨g,o,f,J,s,v,D,E⟩:=z I a;refine⟨g,o,f,J,s,v,by rw[show c-k=0 by omega];omega,fun j x m=>?_⟩;have:=(dh.1 m).1;omega
  .cases A with
   |none=>cases a
   |some K=>
    obtain⟨g,o,f,rfl,s,v,D,E⟩:=z K rfl;injection a with a;refine⟨g,o+k*sz,f,by rw[<-a];exact Go.WideShapes.add_plain _ _ _,s,v,?_,fun j x m=>?_⟩
    .rw[Nat.add_assoc,<-pJ,show k+(c-k)=c by omega];exact D
    .rw[List.getElem?_drop]at m;obtain⟨L,p,r⟩:=E _ x m;refine⟨L,p,fun i u M=>?_⟩;rw[Nat.add_assoc o,<-pJ];exact r i u M
theorem aT.kx{W0 w w':World}{B:Nat}{v:Value}{l:List SH.dC}(h:aT 28 9 (SV W0) B w v l)(a:Ext w w'):aT 28 9 (SV W0) B w' v l:=bH h (mG W0 []) (au a) (au a)
theorem ay.kx{W0 w w':World}{B:Nat}{v:Value}{l:List SH.dC}(h:FK W0 B w v l)(a:Ext w w'):FK W0 B w' v l:=h.gM (mG W0 []) (au a) (au a)
theorem FL{W0:World}(W:World){x:SH.dC}{vt vi vp vf:Value}(h:nS W0 x vt vi vp vf):aT 28 9 (SV W0) 0 (W.alloc (.cells (De x vt vi vp vf).toArray 28)) (.slice (some ⟨W.heap.size,0,none⟩) 1 1) [x]:=(jP (w:=W) (base:=0) (De x vt vi vp vf).toArray [x] W.heap.size 1 rfl rfl (aL _) (by simp) rfl fun k y a=>by match k,a with|0,a=>simp at a;subst a;exact⟨_,⟨_,_,_,_,rfl,h⟩,rfl,fun i u d=>by simpa using d⟩|k+1,a=>simp at a).sl
theorem ay.EA{W0 w:World}{base:Nat}{g n c:Nat}{l:List SH.dC}{k:Nat}{y0:SH.dC}(h:FK W0 base w (.slice (some ⟨g,0,none⟩) n c) (l.set k y0))(f:k<l.length)(i:Nat)(u:Value)(y:SH.dC)(hi:i<9)(j:∀vt vi vp vf,nS W0 y0 vt vi vp vf->SV W0 w ((De y0 vt vi vp vf).set i u) y):FK W0 base (w.setCell ⟨g,k*9+i,none⟩ u) (.slice (some ⟨g,0,none⟩) n c) (l.set k y):=by obtain⟨r,m,vt,vi,vp,vf,e,s,p,a,-,d⟩:=h.P5 (k:=k) (by rw[gK];exact f);rw[List.getElem_set_self]at a d;injection e with e;injection e with e _ _;subst e;have:=d (w.setCell ⟨g,k*9+i,none⟩ u) u i y hi (j _ _ _ _ a) (aP p);rw[List.set_set]at this;exact this
theorem ay.aeN{W0 w:World}{base:Nat}{g n c:Nat}{l:List SH.dC}{k:Nat}(h:FK W0 base w (.slice (some ⟨g,0,none⟩) n c) l)(a:k<l.length)(x:SH.dC)(vt vi vp vf:Value)(d:nS W0 x vt vi vp vf):FK W0 base (((((((((w.setCell ⟨g,k*9,none⟩ (.int .i64 x.kind)).setCell ⟨g,k*9+1,none⟩ (.int .i64 x.deep)).setCell ⟨g,k*9+2,none⟩ (.int .i64 x.num)).setCell ⟨g,k*9+3,none⟩ vt).setCell ⟨g,k*9+4,none⟩ vi).setCell ⟨g,k*9+5,none⟩ vp).setCell ⟨g,k*9+6,none⟩ vf).setCell ⟨g,k*9+7,none⟩ (.bool x.all)).setCell ⟨g,k*9+8,none⟩ (.bool x.fold)) (.slice (some ⟨g,0,none⟩) n c) (l.set k x):=by
 have f:FK W0 base w (.slice (some ⟨g,0,none⟩) n c) (l.set k l[k]):=by rw[List.set_getElem_self];exact h
 have i:=f.EA a 0 (.int .i64 x.kind) {l[k]with kind:=x.kind} (by decide) (fun _ _ _ _ e=>⟨_,_,_,_,rfl,e.text,e.items,e.pat,e.forms⟩);have j:=i.EA a 1 (.int .i64 x.deep) {l[k]with kind:=x.kind,deep:=x.deep} (by decide) (fun _ _ _ _ e=>⟨_,_,_,_,rfl,e.text,e.items,e.pat,e.forms⟩);have m:=j.EA a 2 (.int .i64 x.num) {l[k]with kind:=x.kind,deep:=x.deep,num:=x.num} (by decide) (fun _ _ _ _ e=>⟨_,_,_,_,rfl,e.text,e.items,e.pat,e.forms⟩);have p:=m.EA a 3 vt {l[k]with kind:=x.kind,deep:=x.deep,num:=x.num,text:=x.text} (by decide) (fun _ _ _ _ e=>⟨_,_,_,_,rfl,d.text,e.items,e.pat,e.forms⟩);have r:=p.EA a 4 vi {l[k]with kind:=x.kind,deep:=x.deep,num:=x.num,text:=x.text,items:=x.items} (by decide) (fun _ _ _ _ e=>⟨_,_,_,_,rfl,e.text,d.items,e.pat,e.forms⟩);have s:=r.EA a 5 vp {l[k]with kind:=x.kind,deep:=x.deep,num:=x.num,text:=x.text,items:=x.items,pat:=x.pat} (by decide) (fun _ _ _ _ e=>⟨_,_,_,_,rfl,e.text,e.items,d.pat,e.forms⟩);have t:=s.EA a 6 vf {l[k]with kind:=x.kind,deep:=x.deep,num:=x.num,text:=x.text,items:=x.items,pat:=x.pat,forms:=x.forms} (by decide) (fun _ _ _ _ e=>⟨_,_,_,_,rfl,e.text,e.items,e.pat,d.forms⟩);have u:=t.EA a 7 (.bool x.all) {l[k]with kind:=x.kind,deep:=x.deep,num:=x.num,text:=x.text,items:=x.items,pat:=x.pat,forms:=x.forms,all:=x.all} (by decide) (fun _ _ _ _ e=>⟨_,_,_,_,rfl,e.text,e.items,e.pat,e.forms⟩);have v:=u.EA a 8 (.bool x.fold) x (by decide) (fun _ _ _ _ e=>⟨_,_,_,_,rfl,e.text,e.items,e.pat,e.forms⟩);exact v
def FB(b:Nat)(x:SH.dC):Prop:=x.text.length<=b/\SH.tot x.items<=b/\x.pat.length<=b/\FM.nH x.forms<=b
def aa7(b n:Nat)(w:World)(e:Ending)(w':World):Prop:=∃v' l',e=.returned v'/\Ext w w'/\jH w' v' l'/\(∀y∈l',FB b y)/\l'.length<=n
theorem WI{b:Nat}{l:List SH.dC}{k:Nat}{y:SH.dC}(h:∀x∈l,FB b x)(d:FB b y):∀x∈l.set k y,FB b x:=fun x e=>by
 rcases List.mem_or_eq_of_mem_set e with a|a
 .exact h x a
 .rw[a];exact d
theorem SX(n:Int):bits .and .i64 n 15=n%16:=by
 have d:(BitVec.ofInt 64 15).toNat=2^4-1:=by decide
 have a:(BitVec.ofInt 64 n&&&BitVec.ofInt 64 15).toNat=(n%((2^64:Nat):Int)).toNat%2^4:=by rw[BitVec.toNat_and,BitVec.toNat_ofInt,d,Nat.and_two_pow_sub_one_eq_mod]
 show IntKind.i64.wrap ((BitVec.ofInt 64 n&&&BitVec.ofInt 64 15).toNat:Nat)=n%16;rw[a,IntKind.wrap_i64];omega
namespace SH
def k0:dC:=⟨0,0,0,[36],[],[],[],false,false⟩
def k1:dC:=⟨2,0,2,[],[],[],[],false,false⟩
def k2:dC:=⟨0,1,0,[97],[],[],[],false,false⟩
def k3:dC:=⟨0,1,0,[98],[],[],[],false,false⟩
def kz:dC:=⟨0,0,0,[],[],[],[],false,false⟩
def kL:List dC:=[k0,k1,k2]
theorem abh:res kL=([92,36,36,123,50,58,97,125],0):=by decide+kernel
theorem abj:res [kz]=([],1):=by decide+kernel
theorem abk:may kL=true:=by decide+kernel
theorem abl:may []=true:=by decide+kernel
theorem abm:may (kL++[k3])=false:=by decide+kernel
end SH
section
variable{α:Type}{P:Program}{w:World}{ops:Array Oper}{rest:List Oper}{o:Oper}{a:Act}{Q:Exit->Act->World->Prop}
theorem Ta{t e sz bytes:Nat}{z:Value}(D:P.underlying t=some (.slice e))(E:(P.info? e).map (fun i=>(i.zero,i.size,i.bytes))=some (some z,sz,bytes))(p:z.cells.size=sz)(r:bytes<=1000){C:World->List Value->α->Prop}(F:fO [] C)(f:∀w cs x,C w cs x->cs.length=sz/\∀u∈cs,u.oneCell'=true)(G:Region.wanted o (yielded ops a.tmps)=true)(s x:Operand)(H:o.op=.call {callee:=.builtin .append,args:=#[s,x],argTypes:=#[t,t]})(B v:Nat)(g k:Nat)(d:Value)(xs ys:List α)(j:aT e sz C B w (.slice (some ⟨g,0,none⟩) k k) xs)(m:aT e sz C v w d ys)(I:a.eval s=.slice (some ⟨g,0,none⟩) k k)(J:a.eval x=d)(K:xs.length+ys.length<=1000000000)(h:∀A w',aT e sz C 0 w' A (xs++ys)->Ext w w'->wpList P ops Q rest (a.put o.dst A) w'):wpList P ops Q (o::rest) a w:=by unfold wpList;rw[av G];exact .inl (QF D E p r F f s x H B v g k d xs ys j m I J K h)
end
theorem Tc{W0 W:World}{nb n:Nat}{a:Array Value}{l:List SH.dC}(d:W.heap[nb]?=some (.cells a 28 (0,0)))(f:n=l.length)(s:a.size=n*9)(t:n<=1000000)(h:∀k x,l[k]?=some x->∃vt vi vp vf,nS W0 x vt vi vp vf/\∀(i:Nat)(u:Value),(De x vt vi vp vf)[i]?=some u->a[k*9+i]?=some u):aT 28 9 (SV W0) 0 W (.slice (some ⟨nb,0,none⟩) n n) l:=by subst f;refine⟨_,_,rfl,az _,by omega,fun e=>(by cases e),fun v e=>?_⟩;injection e with e;refine⟨nb,0,a,e.symm,aL _,d,by omega,fun k x j=>?_⟩;obtain⟨vt,vi,vp,vf,m,p⟩:=h k x j;exact⟨_,⟨vt,vi,vp,vf,rfl,m⟩,fun i u r=>by rw[Nat.zero_add];exact p i u r⟩
theorem zI{w:World}{x:SH.dC}{vt:Value}(h:ib w vt x.text)(a:x.items=[])(d:x.pat=[])(e:x.forms=[]):nS w x vt (.slice none 0 0) (.slice none 0 0) (.slice none 0 0):=⟨h,by rw[a];exact nz.eU,by rw[d];exact nz.eU,by rw[e];exact nz.eU⟩
theorem Jr(w:World)(c:Int):ib (w.alloc (.cells #[.int .i32 c] 21)) (.slice (some ⟨w.heap.size,0,none⟩) 1 1) [c]:=(jP (t:=21) (sz:=1) (C:=Cc) (base:=0) (w:=w) #[.int .i32 c] [c] w.heap.size 1 rfl rfl (aL _) (by simp) rfl fun k y a=>by match k,a with|0,a=>simp at a;subst a;exact⟨[.int .i32 c],rfl,rfl,fun i u d=>by simpa using d⟩|k+1,a=>simp at a).sl.mV
theorem fH(w:World)(o:Obj):(w.alloc o).heap.size=w.heap.size+1:=by simp
set_option linter.unusedSimpArgs false in theorem LU(w:World)(T:Tb w):Calls Tryz.prog 8 #[] w (qL (.bool true) w):=by
 obtain⟨z,A⟩:∃z:List Int,z=[92,36,36,123,50,58,97,125]:=⟨_,rfl⟩;obtain⟨J,B⟩:∃J:List Int,J=[]:=⟨_,rfl⟩;have C:=jd A;have K:=jd B;have U:=jd T;clear A B T;go_enter Tryz.func8,Tryz.ntmps8;go_upto_region 2 with fail;have f:Ext w (((w.alloc (.cells #[.int .i32 36] 21)).alloc (.cells #[.int .i32 97] 21)).alloc (.cells #[.int .i64 0,.int .i64 0,.int .i64 0,.slice (some ⟨w.heap.size,0,none⟩) 1 1,.slice none 0 0,.slice none 0 0,.slice none 0 0,.bool false,.bool false,.int .i64 2,.int .i64 0,.int .i64 2,.slice none 0 0,.slice none 0 0,.slice none 0 0,.slice none 0 0,.bool false,.bool false,.int .i64 0,.int .i64 1,.int .i64 0,.slice (some ⟨w.heap.size+1,0,none⟩) 1 1,.slice none 0 0,.slice none 0 0,.slice none 0 0,.bool false,.bool false] 28)):=(((aa w).alloc _).alloc _).alloc _;have j:(((w.alloc (.cells #[.int .i32 36] 21)).alloc (.cells #[.int .i32 97] 21)).alloc (.cells #[.int .i64 0,.int .i64 0,.int .i64 0,.slice (some ⟨w.heap.size,0,none⟩) 1 1,.slice none 0 0,.slice none 0 0,.slice none 0 0,.bool false,.bool false,.int .i64 2,.int .i64 0,.int .i64 2,.slice none 0 0,.slice none 0 0,.slice none 0 0,.slice none 0 0,.bool false,.bool false,.int .i64 0,.int .i64 1,.int .i64 0,.slice (some ⟨w.heap.size+1,0,none⟩) 1 1,.slice none 0 0,.slice none 0 0,.slice none 0 0,.bool false,.bool false] 28)).heap[w.heap.size+1+1]?=some (.cells #[.int .i64 0,.int .i64 0,.int .i64 0,.slice (some ⟨w.heap.size,0,none⟩) 1 1,.slice none 0 0,.slice none 0 0,.slice none 0 0,.bool false,.bool false,.int .i64 2,.int .i64 0,.int .i64 2,.slice none 0 0,.slice none 0 0,.slice none 0 0,.slice none 0 0,.bool false,.bool false,.int .i64 0,.int .i64 1,.int .i64 0,.slice (some ⟨w.heap.size+1,0,none⟩) 1 1,.slice none 0 0,.slice none 0 0,.slice none 0 0,.bool false,.bool false] 28 (0,0)):=by have:=aB ((w.alloc (.cells #[.int .i32 36] 21)).alloc (.cells #[.int .i32 97] 21)) (.cells #[.int .i64 0,.int .i64 0,.int .i64 0,.slice (some ⟨w.heap.size,0,none⟩) 1 1,.slice none 0 0,.slice none 0 0,.slice none 0 0,.bool false,.bool false,.int .i64 2,.int .i64 0,.int .i64 2,.slice none 0 0,.slice none 0 0,.slice none 0 0,.slice none 0 0,.bool false,.bool false,.int .i64 0,.int .i64 1,.int .i64 0,.slice (some ⟨w.heap.size+1,0,none⟩) 1 1,.slice none 0 0,.slice none 0 0,.slice none 0 0,.bool false,.bool false] 28);rw[fH,fH]at this;exact this
 have m:ib (((w.alloc (.cells #[.int .i32 36] 21)).alloc (.cells #[.int .i32 97] 21)).alloc (.cells #[.int .i64 0,.int .i64 0,.int .i64 0,.slice (some ⟨w.heap.size,0,none⟩) 1 1,.slice none 0 0,.slice none 0 0,.slice none 0 0,.bool false,.bool false,.int .i64 2,.int .i64 0,.int .i64 2,.slice none 0 0,.slice none 0 0,.slice none 0 0,.slice none 0 0,.bool false,.bool false,.int .i64 0,.int .i64 1,.int .i64 0,.slice (some ⟨w.heap.size+1,0,none⟩) 1 1,.slice none 0 0,.slice none 0 0,.slice none 0 0,.bool false,.bool false] 28)) (.slice (some ⟨w.heap.size,0,none⟩) 1 1) [36]:=(Jr w 36).ext (((aa _).alloc _).alloc _);have p:ib (((w.alloc (.cells #[.int .i32 36] 21)).alloc (.cells #[.int .i32 97] 21)).alloc (.cells #[.int .i64 0,.int .i64 0,.int .i64 0,.slice (some ⟨w.heap.size,0,none⟩) 1 1,.slice none 0 0,.slice none 0 0,.slice none 0 0,.bool false,.bool false,.int .i64 2,.int .i64 0,.int .i64 2,.slice none 0 0,.slice none 0 0,.slice none 0 0,.slice none 0 0,.bool false,.bool false,.int .i64 0,.int .i64 1,.int .i64 0,.slice (some ⟨w.heap.size+1,0,none⟩) 1 1,.slice none 0 0,.slice none 0 0,.slice none 0 0,.bool false,.bool false] 28)) (.slice (some ⟨w.heap.size+1,0,none⟩) 1 1) [97]:=by have:=(Jr (w.alloc (.cells #[.int .i32 36] 21)) 97).ext ((aa _).alloc (.cells #[.int .i64 0,.int .i64 0,.int .i64 0,.slice (some ⟨w.heap.size,0,none⟩) 1 1,.slice none 0 0,.slice none 0 0,.slice none 0 0,.bool false,.bool false,.int .i64 2,.int .i64 0,.int .i64 2,.slice none 0 0,.slice none 0 0,.slice none 0 0,.slice none 0 0,.bool false,.bool false,.int .i64 0,.int .i64 1,.int .i64 0,.slice (some ⟨w.heap.size+1,0,none⟩) 1 1,.slice none 0 0,.slice none 0 0,.slice none 0 0,.bool false,.bool false] 28));rw[fH]at this;exact this
 generalize((w.alloc (.cells #[.int .i32 36] 21)).alloc (.cells #[.int .i32 97] 21)).alloc (.cells #[.int .i64 0,.int .i64 0,.int .i64 0,.slice (some ⟨w.heap.size,0,none⟩) 1 1,.slice none 0 0,.slice none 0 0,.slice none 0 0,.bool false,.bool false,.int .i64 2,.int .i64 0,.int .i64 2,.slice none 0 0,.slice none 0 0,.slice none 0 0,.slice none 0 0,.bool false,.bool false,.int .i64 0,.int .i64 1,.int .i64 0,.slice (some ⟨w.heap.size+1,0,none⟩) 1 1,.slice none 0 0,.slice none 0 0,.slice none 0 0,.bool false,.bool false] 28)=r at f j m p⊢;have L:=jd f;have M:=jd (fun(W0 W:World)(V:Ext r W0)(h1:Ext r W)=>show aT 28 9 (SV W0) 0 W (.slice (some ⟨w.heap.size+1+1,0,none⟩) 3 3) SH.kL from Tc (h1.heap j) rfl rfl (by decide) fun k x d=>by match k,d with|0,d=>cases d;exact⟨_,_,_,_,zI (x:=SH.k0) (m.ext V) rfl rfl rfl,fun i u a=>by have hi:i<9:=(dh.1 a).1;(match i,hi,a with|0,_,a=>exact a|1,_,a=>exact a|2,_,a=>exact a|3,_,a=>exact a|4,_,a=>exact a|5,_,a=>exact a|6,_,a=>exact a|7,_,a=>exact a|8,_,a=>exact a|i+9,hi,_=>exact absurd hi (by omega))⟩|1,d=>cases d;exact⟨_,_,_,_,zI (x:=SH.k1) nz.eU rfl rfl rfl,fun i u a=>by have hi:i<9:=(dh.1 a).1;(match i,hi,a with|0,_,a=>exact a|1,_,a=>exact a|2,_,a=>exact a|3,_,a=>exact a|4,_,a=>exact a|5,_,a=>exact a|6,_,a=>exact a|7,_,a=>exact a|8,_,a=>exact a|i+9,hi,_=>exact absurd hi (by omega))⟩|2,d=>cases d;exact⟨_,_,_,_,zI (x:=SH.k2) (p.ext V) rfl rfl rfl,fun i u a=>by have hi:i<9:=(dh.1 a).1;(match i,hi,a with|0,_,a=>exact a|1,_,a=>exact a|2,_,a=>exact a|3,_,a=>exact a|4,_,a=>exact a|5,_,a=>exact a|6,_,a=>exact a|7,_,a=>exact a|8,_,a=>exact a|i+9,hi,_=>exact absurd hi (by omega))⟩|k+3,d=>cases d);clear j m p f;have qH:=jd (fun W(s:Ext r W)=>show Calls Tryz.prog 15 #[.slice (some ⟨w.heap.size+1+1,0,none⟩) 3 3] W (PrR z 0 W)from(yt SH.kL _ W ((M.o W W s s).KT (aa W)) (by unfold Bl;decide) (U.o.ext (L.o.trans s))).mono fun e I h=>by unfold O1 at h;rw[SH.abh,<-C.o]at h;exact h);have zm:=jd (fun W(s:Ext r W)=>show Calls Tryz.prog 17 #[.slice (some ⟨w.heap.size+1+1,0,none⟩) 3 3] W (qL (.bool true) W)from(uX SH.kL _ W ((M.o W W s s).KT (aa W)) (by unfold Fit;decide)).mono fun e I h=>by rw[SH.abk]at h;exact h);have qQ:=jd (fun W=>show Calls Tryz.prog 17 #[.slice none 0 0] W (qL (.bool true) W)from(uX [] _ W nz.eU (by unfold Fit;decide)).mono fun e I h=>by rw[SH.abl]at h;exact h);have ny:=jd (fun W v(hv:jH W v (SH.kL++[SH.k3]))=>show Calls Tryz.prog 17 #[v] W (qL (.bool false) W)from(uX _ _ W hv (by unfold Fit;decide)).mono fun e I h=>by rw[SH.abm]at h;exact h);go_upto_region 3 with(go_at_call 15;refine(qH.o r (aa r)).mono ?_;rintro e D⟨E,A2,c2,rfl,F⟩;have G:=jd E;have gU:=jd F;clear E F);have N:=jd (show Calls Tryz.prog 15 #[.slice (some ⟨D.heap.size,0,none⟩) 1 1] (D.alloc (.cells #[.int .i64 0,.int .i64 0,.int .i64 0,.slice none 0 0,.slice none 0 0,.slice none 0 0,.slice none 0 0,.bool false,.bool false] 28)) (PrR J 1 _)from(yt [SH.kz] _ _ ((FL (W0:=D) D (zI (x:=SH.kz) nz.eU rfl rfl rfl)).KT ((aa _).alloc _)) (by unfold Bl;decide) (U.o.ext ((L.o.trans G.o).alloc _))).mono fun e I h=>by unfold O1 at h;rw[SH.abj,<-K.o]at h;exact h);go_upto_region 4 with(go_at_call 15;refine N.o.mono ?_;rintro e w3⟨X,A3,c3,rfl,-⟩;have Y:=jd (((aa D).alloc _).trans X);clear X);have O:=jd (G.o.trans Y.o);have Z:True:=trivial;have ja:True:=trivial;go_wp2_with(first|(go_at_call 22;refine(GJ _ w3 (by decide)).mono ?_;rintro e w4⟨v4,rfl,H,P⟩;have CJ:=jd (O.o.trans P);have Q:=jd (Y.o.trans P);have pG:=jd H;clear H P)|(go_at_call 19;refine(Ea _ _ z z w4 (gU.o.sl.mV.ext Q.o) (by have:=pG.o.sl.mV;rw[C.o];exact this)).mono ?_;rw[bJ rfl];rintro e w5⟨rfl,EL⟩;have zN:=jd (CJ.o.trans EL);clear EL)|(have _t:=Z;go_at_call 17;refine(zm.o w5 zN.o).mono ?_;rintro e w6⟨rfl,WR⟩;clear Z _t;have Ws:=jd (zN.o.trans WR);clear WR)|(have _t:=ja;go_at_call 17;refine(qQ.o w6).mono ?_;rintro e t⟨rfl,Tt⟩;clear ja _t;have R:=jd (Ws.o.trans Tt);clear Tt)|(at_builtin;refine Ta lg fK rfl (by decide) (mG (t.alloc (.cells #[.int .i32 98] 21)) []) (zD (t.alloc (.cells #[.int .i32 98] 21))) (by simp[go_sem]) _ _ rfl 0 0 (w.heap.size+1+1) 3 (.slice (some ⟨t.heap.size+1,0,none⟩) 1 1) SH.kL [SH.k3] (M.o _ _ (R.o.alloc _) ((R.o.alloc _).alloc _)) (by have:=FL (t.alloc (.cells #[.int .i32 98] 21)) (zI (x:=SH.k3) (Jr t 98) rfl rfl rfl);rw[fH t]at this;exact this) (by simp[Act.eval,Act.put]) (by simp[Act.eval,Act.put]) (by decide) ?_;intro v8 w8 h8 S;have Yg:=jd (((R.o.alloc _).alloc _).trans S);have Xu:=jd (h8.KT (((aa _).alloc _).trans S));clear h8 S)|(go_at_call 17;refine(ny.o w8 _ Xu.o).mono ?_;rintro e w9⟨rfl,Cn⟩;have wN:=jd (Yg.o.trans Cn);clear Cn));go_ret;exact⟨rfl,L.o.trans wN.o⟩
def Cx(w:World)(cs:List Value)(t:List Int):Prop:=∃u,cs=[u]/\aT 21 1 Cc 0 w u t
theorem Qz:fO [21] Cx:=by rintro w d e x a⟨u,rfl,h⟩;exact⟨u,rfl,h.keep (dQ []) (a.sub (by simp)) a⟩
def TN:List TypeId:=[21,24,109]
structure wC(w:World)(x:SH.dC)(vt vi vp vf:Value):Prop where
 text:aT 21 1 Cc 0 w vt x.text
 items:aT 24 1 Cx 0 w vi x.items
 pat:aT 21 1 Cc 0 w vp x.pat
 forms:aT 109 5 (CF 0) 0 w vf x.forms
section
variable{w w':World}{x:SH.dC}{vt vi vp vf v:Value}
theorem aT.Fz{B:Nat}{t:List Int}(h:aT 21 1 Cc B w v t)(a:aV TN w w'):aT 21 1 Cc B w' v t:=h.keep (dQ []) (a.sub (by simp)) (a.sub (by simp[TN]))
theorem wC.keep(h:wC w x vt vi vp vf)(a:aV TN w w'):wC w' x vt vi vp vf:=⟨h.text.Fz a,bH h.items Qz (a.sub (by simp[TN])) (a.sub (by simp[TN])),h.pat.Fz a,bH h.forms (fun _ _ _ _ a h=>CF.gM h a) (a.sub (by simp[TN])) (a.sub (by simp[TN]))⟩
theorem aaT{B:Nat}{l:List (List Int)}(h:aT 24 1 Cx B w v l):Jv w v l:=by
 obtain⟨A,c,rfl,f,i,d,j⟩:=h;refine⟨A,c,rfl,f,i,fun k x e=>?_,d⟩;cases A with
 |none=>have:=d rfl;have:=(dh.1 e).1;omega
 |some m=>obtain⟨g,o,a,rfl,_,p,_,r⟩:=j m rfl;obtain⟨z,⟨u,rfl,s⟩,t⟩:=r k x e;exact⟨g,o,rfl,u,(cell_of_row w g _ a 24 (0,0) p).trans (t 0 u rfl),s.mV⟩
theorem wC.ndr(h:wC w x vt vi vp vf):nS w x vt vi vp vf:=⟨h.text.mV,aaT h.items,h.pat.mV,h.forms.slf⟩
end
def Nt(w:World)(cs:List Value)(x:SH.dC):Prop:=∃vt vi vp vf,cs=De x vt vi vp vf/\wC w x vt vi vp vf
theorem ni:fO TN Nt:=by rintro w d e x a⟨vt,vi,vp,vf,rfl,h⟩;exact⟨vt,vi,vp,vf,rfl,h.keep a⟩
theorem aaU:∀w cs x,Nt w cs x->cs.length=9/\∀u∈cs,u.oneCell'=true:=fun w cs x⟨vt,vi,vp,vf,e,h⟩=>zD w w cs x ⟨vt,vi,vp,vf,e,h.ndr⟩
theorem aT.aen{w:World}{B:Nat}{v:Value}{l:List SH.dC}(h:aT 28 9 Nt B w v l):jH w v l:=aT.KT (aT.imp h (fun _ _⟨vt,vi,vp,vf,e,h⟩=>⟨vt,vi,vp,vf,e,h.ndr⟩)) (aa w)
theorem ay.Xd{α:Type}{t sz base n c:Nat}{C:World->List Value->α->Prop}{w:World}{A:Option Addr}{l:List α}(h:ay t sz C base w (.slice A n c) l){k:Nat}(E:k<l.length):∃g a cs,A=some ⟨g,0,none⟩/\base<=g/\w.heap[g]?=some (.cells a t (0,0))/\C w cs l[k]/\cs.length=sz/\(∀(i:Nat)(u:Value),cs[i]?=some u->a[k*sz+i]?=some u)/\∀(B:World->List Value->α->Prop)(w':World)(u:Value)(i:Nat)(y:α),i<sz->(∀cs x,C w cs x->B w' cs x)->B w' (cs.set i u) y->w'.heap[g]?=some (.cells (a.setIfInBounds (k*sz+i) u) t (0,0))->ay t sz B base w' (.slice A n c) (l.set k y):=by
 obtain⟨flat,⟨N,S⟩,O⟩:=h;rcases S with⟨P,h0⟩|⟨g,T,a,P,Q,U,F,G,H,r⟩
 .omega
 .injection P with V X Y;subst V X Y;obtain⟨cs,Z,I,s⟩:=O k _ (aU E);refine⟨g,a,cs,rfl,Q,U,Z,I,fun i u hu=>?_,fun B w' u i y hi J hy K=>?_⟩
  .have D:=s i u hu;rw[<-r,pY]at D;split at D
   .simpa using D
   .cases D
  .refine⟨flat.set (k*sz+i) u,⟨by rw[gK,gK];exact N,.inr ⟨g,c,_,by rw[gK],Q,K,by rw[gK];exact F,G,by rw[Array.size_setIfInBounds];exact H,?_⟩⟩,fun j x p=>?_⟩
   .rw[gK,Array.toList_setIfInBounds,List.take_set,r]
   .have L:k*sz+i<l.length*sz:=by have:(k+1)*sz<=l.length*sz:=tC _ E;rw[Nat.succ_mul]at this;omega
    by_cases e:k=j
    .subst e;rw[uH E]at p;injection p with p;subst p;refine⟨_,hy,by rw[gK];exact I,fun m z d=>?_⟩;by_cases v:i=m
     .subst v;rw[uH (by rw[I];exact hi)]at d;rw[uH (by rw[N];exact L)];exact d
     .rw[oP v]at d;rw[oP (by omega)];exact s m z d
    .rw[oP e]at p;obtain⟨ds,h3,R,h5⟩:=O j x p;refine⟨ds,J _ _ h3,R,fun m z d=>?_⟩;have hm:m<sz:=by rw[<-R];exact(dh.1 d).1
     have M:k*sz+i≠j*sz+m:=by
      rcases Nat.lt_or_gt_of_ne e with f|f
      .have:(k+1)*sz<=j*sz:=tC _ f;rw[Nat.succ_mul]at this;omega
      .have:(j+1)*sz<=k*sz:=tC _ f;rw[Nat.succ_mul]at this;omega
     rw[oP M];exact h5 m z d
theorem aV.set{T:List TypeId}{w:World}{g j:Nat}{u:Value}{d:Array Value}{t:TypeId}(k:w.heap[g]?=some (.cells d t (0,0)))(m:t∉T):aV T w (w.setCell ⟨g,j,none⟩ u):=by
 intro b i p f a;by_cases e:b=g
 .subst e;rw[k]at a;injection a with a;injection a with _ a _;exact absurd (a▸f) m
 .exact(((aJ w g).set u).block b (ag a) (by intro h;injection h with h;exact e h)).trans a
abbrev CO(B:Nat)(w:World)(v:Value)(l:List SH.dC):Prop:=ay 28 9 Nt B w v l
theorem ay.xH{w:World}{base g n c:Nat}{l:List SH.dC}{k:Nat}{y0:SH.dC}(h:CO base w (.slice (some ⟨g,0,none⟩) n c) (l.set k y0))(j:k<l.length)(i:Nat)(u:Value)(y:SH.dC)(hi:i<9)(m:∀w' vt vi vp vf,aV TN w w'->wC w' y0 vt vi vp vf->Nt w' ((De y0 vt vi vp vf).set i u) y):CO base (w.setCell ⟨g,k*9+i,none⟩ u) (.slice (some ⟨g,0,none⟩) n c) (l.set k y):=by obtain⟨v,p,r,e,z,f,a,-,-,s⟩:=h.Xd (k:=k) (by rw[gK];exact j);rw[List.getElem_set_self]at a;injection e with e;injection e with e _ _;subst e;obtain⟨vt,vi,vp,vf,rfl,a⟩:=a;have d:aV TN w (w.setCell ⟨g,k*9+i,none⟩ u):=aV.set f (by decide);have:=s Nt (w.setCell ⟨g,k*9+i,none⟩ u) u i y hi (fun r x t=>ni _ _ _ _ d t) (m _ _ _ _ _ d (a.keep d)) (aP f);rw[List.set_set]at this;exact this
theorem qm{w:World}{h:Array Oper}{o:Oper}{a:Act}{K:Act->World->Prop}{Q:Exit->Act->World->Prop}{E:Prop}(i:o.guard=none)(s x:Operand)(D:o.op=.call {callee:=.builtin .append,args:=#[s,x],argTypes:=#[24,24]})(B:Nat)(v:Value)(d ys:List Int)(e:ay 21 1 Cc B w v d)(F:a.eval s=v)(k:Addr)(m c:Nat)(G:a.eval x=.slice (some k) m c)(H:m=ys.length)(p:0<m)(I:∀j y,ys[j]?=some y->w.cell? (k.add j)=some (.int .i32 y))(P:d.length+m<=1000000000)(J:B<=w.heap.size)(L:∀g c2 w',ay 21 1 Cc B w' (.slice (some ⟨g,0,none⟩) (d.length+m) c2) (d++ys)->w.grownBy w' v.ownBlock->(v.ownBlock=some g\/g=w.heap.size)->K (a.put o.dst (.slice (some ⟨g,0,none⟩) (d.length+m) c2)) w'):if Region.wanted o (yielded h a.tmps)=true then Oper.wp Tryz.prog o a w K Q else E:=by
 subst H;obtain⟨M,hi,r,t,z⟩:=fD gQ;refine step_append_lies _ i s x _ D B 21 M (.int .i32 0) 1 4 eT hi r t z rfl (by decide) v d.length _ F e.dM k ys.length c (ys.map (Value.int .i32)) G (by simp) (eG I) (fun u C=>by simp at C;obtain⟨y,_,rfl⟩:=C;rfl) p (by unfold maxLen;omega) (by omega) J _ rfl ?_;intro g A w' N O f _;refine L g A w' (mI ?_) O ?_
 .rw[jS,ai];exact N
 .rcases f with f|f
  .exact .inl f
  .exact .inr f
def C2(_:World)(cs:List Value)(p:Int×Int):Prop:=cs=[.int .i64 p.1,.int .i64 p.2]
theorem wG(T:List TypeId):fO T C2:=fun _ _ _ _ _ h=>h
structure Rd(w0:World)(rb:Nat)(vs vl vo:Value)(l:List SH.dC)(op:List (Int×Int))(wr:World):Prop where
 ext:Ext w0 wr
 lo:w0.heap.size<=rb
 box:wr.heap[rb]?=some (.cells #[vs,vl,vo] 48 (0,0))
 nodes:CO (rb+1) wr vl l
 opn:ay 53 2 C2 (rb+1) wr vo op
section
variable{w0 wr w':World}{rb:Nat}{vs vl vo II U6:Value}{l l':List SH.dC}{op op':List (Int×Int)}
theorem Rd.aj(h:Rd w0 rb vs vl vo l op wr)(a:Ext wr w'):Rd w0 rb vs vl vo l op w':=⟨h.ext.trans a,h.lo,a.heap h.box,h.nodes.gM ni (au a) (au a),h.opn.gM (wG []) (au a) (au a)⟩
theorem Rd.c0(h:Rd w0 rb vs vl vo l op wr):wr.cell? ⟨rb,0,none⟩=some vs:=cy 0 h.box
theorem Rd.c1(h:Rd w0 rb vs vl vo l op wr):wr.cell? ⟨rb,1,none⟩=some vl:=cy 1 h.box
theorem Rd.c2(h:Rd w0 rb vs vl vo l op wr):wr.cell? ⟨rb,2,none⟩=some vo:=cy 2 h.box
theorem Rd.fr(h:Rd w0 rb vs vl vo l op wr)(i:Nat):wr.frozen? ⟨rb,i,none⟩=false:=fq i h.box
theorem Rd.acN(h:Rd w0 rb vs vl vo l op wr)(a:wr.grownBy w' vl.ownBlock):w'.heap[rb]?=some (.cells #[vs,vl,vo] 48 (0,0)):=(a.block rb (ag h.box) (fun e=>by have:=(h.nodes.lt rb e.symm).1;omega)).trans h.box
theorem Rd.acO(h:Rd w0 rb vs vl vo l op wr)(a:wr.grownBy w' vo.ownBlock):w'.heap[rb]?=some (.cells #[vs,vl,vo] 48 (0,0)):=(a.block rb (ag h.box) (fun e=>by have:=(h.opn.lt rb e.symm).1;omega)).trans h.box
theorem ay.V7{α:Type}{t sz B j:Nat}{C a:World->List Value->α->Prop}{w:World}{v u:Value}{xs:List α}(h:ay t sz C B w v xs)(f:∀cs x,C w cs x->a (w.setCell ⟨rb,j,none⟩ u) cs x)(m:rb<B):ay t sz a B (w.setCell ⟨rb,j,none⟩ u) v xs:=h.pV f (fun g i k d=>(((aJ w rb).set u).block g (ag d) (by intro e;injection e with e;have:=(h.lt g k).1;omega)).trans d)
theorem Rd.aeq(h:Rd w0 rb vs vl vo l op wr)(m:CO (rb+1) w' II l')(d:wr.grownBy w' vl.ownBlock):Rd w0 rb vs II vo l' op (w'.setCell ⟨rb,1,none⟩ II):=by
 have j:=h.acN d;refine⟨(h.ext.grown d (fun k r=>by have:=(h.nodes.lt k r).1;have:=h.lo;omega)).set (p:=⟨rb,1,none⟩) h.lo _,h.lo,aP j,?_,?_⟩
 .exact ay.V7 m (fun t x e=>ni _ _ _ _ (aV.set j (by decide)) e) (Nat.lt_succ_self _)
 .have s:ay 53 2 C2 (rb+1) w' vo op:=h.opn.gM (wG []) (kF d (fun g f=>by obtain⟨a,i⟩:=h.nodes.type g f;exact⟨a,_,i,by decide⟩)) (kF d (fun g f=>by obtain⟨a,i⟩:=h.nodes.type g f;exact⟨a,_,i,by decide⟩));exact ay.V7 s (fun _ _ e=>e) (Nat.lt_succ_self _)
theorem Rd.aaX(h:Rd w0 rb vs vl vo l op wr)(j:ay 53 2 C2 (rb+1) w' U6 op')(d:wr.grownBy w' vo.ownBlock):Rd w0 rb vs vl U6 l op' (w'.setCell ⟨rb,2,none⟩ U6):=by
 have i:=h.acO d;have a:∀T:List TypeId,53∉T->aV T wr w':=fun T m=>kF d (fun g r=>by obtain⟨e,s⟩:=h.opn.type g r;exact⟨e,_,s,m⟩);refine⟨(h.ext.grown d (fun k a=>by have:=(h.opn.lt k a).1;have:=h.lo;omega)).set (p:=⟨rb,2,none⟩) h.lo _,h.lo,aP i,?_,?_⟩
 .have t:CO (rb+1) w' vl l:=h.nodes.gM ni (a _ (by decide)) (a _ (by decide));exact ay.V7 t (fun u x f=>ni _ _ _ _ (aV.set i (by decide)) f) (Nat.lt_succ_self _)
 .exact ay.V7 j (fun _ _ f=>f) (Nat.lt_succ_self _)
end
theorem SC(W:World){x:SH.dC}{vt vi vp vf:Value}(h:wC W x vt vi vp vf):aT 28 9 Nt 0 (W.alloc (.cells (De x vt vi vp vf).toArray 28)) (.slice (some ⟨W.heap.size,0,none⟩) 1 1) [x]:=(jP (w:=W) (base:=0) (De x vt vi vp vf).toArray [x] W.heap.size 1 rfl rfl (aL _) (by simp) rfl fun k y a=>by match k,a with|0,a=>simp at a;subst a;exact⟨_,⟨_,_,_,_,rfl,h.keep (au ((aa W).alloc _))⟩,rfl,fun i u d=>by simpa using d⟩|k+1,a=>simp at a).sl
theorem aT.kt{w w':World}{B:Nat}{v:Value}{l:List SH.dC}(h:aT 28 9 Nt B w v l)(a:Ext w w'):aT 28 9 Nt B w' v l:=bH h ni (au a) (au a)
theorem ay.kt{w w':World}{B:Nat}{v:Value}{l:List SH.dC}(h:CO B w v l)(a:Ext w w'):CO B w' v l:=h.gM ni (au a) (au a)
theorem wC.shape{w:World}{x:SH.dC}{vt vi vp vf:Value}(h:wC w x vt vi vp vf):∃A c a c1 d c2 e c3,vt=.slice A x.text.length c/\vi=.slice a x.items.length c1/\vp=.slice d x.pat.length c2/\vf=.slice e x.forms.length c3:=by obtain⟨A,c,a,c1,d,c2,e,c3,f,i,j,k,_⟩:=h.ndr.shape;exact⟨A,c,a,c1,d,c2,e,c3,f,i,j,k⟩
def aer(w0:World)(rb:Nat)(vs vo:Value)(l:List SH.dC)(op:List (Int×Int))(x:SH.dC)(e:Ending)(w':World):Prop:=e=.returned (.tuple #[])/\∃vl,Rd w0 rb vs vl vo (l++[{x with deep:=op.length}]) op w'
theorem mg(w0:World)(rb:Nat)(P T Q:Value)(l:List SH.dC)(op:List (Int×Int))(wr:World)(h:Rd w0 rb P T Q l op wr)(x:SH.dC)(vt vi vp vf:Value)(hx:wC wr x vt vi vp vf)(hl:l.length<=1000000):Calls Tryz.prog 11 #[.pointer (some ⟨rb,0,none⟩),.agg (De x vt vi vp vf).toArray] wr (aer w0 rb P Q l op x):=by
 obtain⟨U,V,rfl,-⟩:=h.nodes.form;obtain⟨Ao,co,rfl,-⟩:=h.opn.form;obtain⟨At,u,v,w,z,A,B,cf,rfl,rfl,rfl,rfl⟩:=hx.shape;have X:=ag h.box;have R:=jd h;have r:=jd hx;have k:=jd (aB wr (.cells #[.int .i64 x.kind,.int .i64 x.deep,.int .i64 x.num,.slice At x.text.length u,.slice v x.items.length w,.slice z x.pat.length A,.slice B x.forms.length cf,.bool x.all,.bool x.fold] 28));have C:=jd ((aa wr).alloc (.cells #[.int .i64 x.kind,.int .i64 x.deep,.int .i64 x.num,.slice At x.text.length u,.slice v x.items.length w,.slice z x.pat.length A,.slice B x.forms.length cf,.bool x.all,.bool x.fold] 28));clear h hx;obtain⟨D,Y,E,tx,F,G,fo,H,I⟩:=x;dsimp only[De]at r k C⊢;obtain⟨d,e⟩:∃d,d=wr.heap.size:=⟨_,rfl⟩;rw[<-e]at k;have Z:=jd (jG e.symm);have hne:rb≠d:=by omega
 have S:d≠rb:=by omega
 go_enter Tryz.func11,Tryz.ntmps11;go_upto_region 1 with fail;rw[<-e];clear e;generalize wr.alloc (.cells #[.int .i64 D,.int .i64 Y,.int .i64 E,.slice At tx.length u,.slice v F.length w,.slice z G.length A,.slice B fo.length cf,.bool H,.bool I] 28)=J at k C⊢;have c2:=(R.o.aj C.o).c2;obtain⟨-,c1,-,f1⟩:=PW k.o;have s:=ag k.o;go_upto_region 2 with fail;have f:=jd (show(J.setCell ⟨d,1,none⟩ (.int .i64 (op.length:Int))).heap[d]?=some (.cells #[.int .i64 D,.int .i64 (op.length:Int),.int .i64 E,.slice At tx.length u,.slice v F.length w,.slice z G.length A,.slice B fo.length cf,.bool H,.bool I] 28 (0,0))from aP k.o);have i:=jd (show Ext wr (J.setCell ⟨d,1,none⟩ (.int .i64 (op.length:Int)))from C.o.set (p:=⟨d,1,none⟩) Z.o _);clear c1 c2 f1 s;generalize J.setCell ⟨d,1,none⟩ (.int .i64 (op.length:Int))=t at f i⊢;have m:=jd (R.o.aj i.o);have a:=r.o.keep (au i.o);have HX:=jd (show wC t ⟨D,op.length,E,tx,F,G,fo,H,I⟩ _ _ _ _ from⟨a.text,a.items,a.pat,a.forms⟩);clear a;have K:=jd (fun(W:World)(hE:Ext t W)=>SC W (HX.o.keep (au hE)));have L:=ag m.o.box;have s:=ag f.o;have c1:=m.o.c1;have f1:=m.o.fr 1;obtain⟨d0,d1,d2,d3,d4,d5,d6,d7,d8⟩:=BH f.o;go_region_law(first|(refine om lg fK rfl (by decide) (by decide) ni (by decide) aaU rfl _ _ (by rfl) (rb+1) 0 (.slice U l.length V) (.slice (some ⟨t.heap.size,0,none⟩) 1 1) l [⟨D,op.length,E,tx,F,G,fo,H,I⟩] (m.o.nodes.kt (by(focus(repeat(first|exact aa _|apply ak|apply ah|apply af))))) ?h2 ?hs ?hx ?hn ?hB ?_;(case hs=>simp[Act.eval]);(case hx=>simp[Act.eval]);(case h2=>(first|exact K.o _ (by(focus(repeat(first|exact aa _|apply ak|apply ah|apply af))))|exact(K.o t (aa _)).kt (by(focus(repeat(first|exact aa _|apply ak|apply ah|apply af))))|exact(K.o t.drew ((aa _).drew)).kt (by(focus(repeat(first|exact aa _|apply ak|apply ah|apply af))))));(case hn=>(simp;omega));(case hB=>exact aG L (jT (by(focus(repeat(first|exact aa _|apply ak|apply ah|apply af))))));intro v4 w4 M j;obtain⟨A4,c4,rfl,-⟩:=M.form;have N:=(m.o.aj (by(focus(repeat(first|exact aa _|apply ak|apply ah|apply af))))).acN j;obtain⟨-,q1,-,g1⟩:=PW N;have aes:=ag N;have HF:=jd (Rd.aeq (m.o.aj (by(focus(repeat(first|exact aa _|apply ak|apply ah|apply af))))) M j);clear N M j)|fail);all_goals
  go_wp2_with fail;go_end0;have O:=HF.o;simp only[ai,aF,aN]at O;exact⟨rfl,_,by first|exact O|exact O.aj (by(focus(repeat(first|exact aa _|apply ak|apply ah|apply af))))⟩
section
variable{P:Program}{w:World}{ops:Array Oper}{rest:List Oper}{o:Oper}{a:Act}{Q:Exit->Act->World->Prop}
theorem OC(f:o.guard=none)(s x:Operand)(z:o.op=.call {callee:=.builtin .append,args:=#[s,x],argTypes:=#[24,24]})(B:Nat)(v:Value)(xs ys:List Int)(e:ay 21 1 Cc B w v xs)(A:a.eval s=v)(i:Addr)(m c:Nat)(C:a.eval x=.slice (some i) m c)(D:m=ys.length)(E:∀j y,ys[j]?=some y->w.cell? (i.add j)=some (.int .i32 y))(K:xs.length+ys.length<=1000000000)(F:B<=w.heap.size)(h:∀d w',ay 21 1 Cc B w' d (xs++ys)->w.grownBy w' v.ownBlock->(d.ownBlock=v.ownBlock\/d.ownBlock=some w.heap.size)->wpList Tryz.prog ops Q rest (a.put o.dst d) w'):wpList Tryz.prog ops Q (o::rest) a w:=by
 subst D;obtain⟨G,hi,k,p,r⟩:=fD gQ;refine wpList_append_own_at w f s x _ z B 21 G (.int .i32 0) 1 4 eT hi k p r rfl (by decide) v xs.length _ A e.dM i ys.length c (ys.map (Value.int .i32)) C (by simp) ?_ ?_ (by unfold maxLen;omega) (by omega) F ?_
 .exact eG E
 .intro u t;simp at t;obtain⟨y,_,rfl⟩:=t;rfl
 .intro d w' H I _ J;refine h d w' (mI ?_) I J;rw[jS,ai];exact H
end
theorem ay.other{B:Nat}{w w':World}{v:Value}{xs:List Int}(h:ay 21 1 Cc B w v xs)(f:∀g,v.ownBlock=some g->w'.heap[g]?=w.heap[g]?):ay 21 1 Cc B w' v xs:=by
 refine mI ?_;obtain⟨i,j⟩:=h.dM;refine⟨i,?_⟩;rcases j with k|⟨g,a,d,rfl,e,m,p⟩
 .exact .inl k
 .exact .inr ⟨g,a,d,rfl,e,(f g rfl).trans m,p⟩
section
variable{w0:World}{tb:Nat}{sv:Value}{ts:List Int}{w wr w':World}{v:Value}{b c:Nat}
def Wk(w0:World)(tb:Nat)(sv:Value)(ts:List Int)(w:World)(v:Value)(b:Nat)(wr:World):Prop:=∃out i,oz w0 tb sv ts w i v out wr/\out.length<=b
def Vl(tb:Nat)(w:World)(v:Value)(c:Nat):Prop:=∃l,aT 21 1 Cc (tb+1) w v l/\l.length<=c
def WkV(w0:World)(tb:Nat)(sv:Value)(ts:List Int)(w:World)(v:Value)(b c:Nat)(e:Ending)(w':World):Prop:=∃v2,e=.returned v2/\Wk w0 tb sv ts w v b w'/\Vl tb w' v2 c
theorem TW.mono{e:Ending}(h:TW tb sv ts b w e w')(a:b<=c):TW tb sv ts c w e w':=by obtain⟨v,l,j,d,f,i,k⟩:=h;exact⟨v,l,j,d,f,aG i a,k⟩
theorem Wk.call{e:Ending}(h:Wk w0 tb sv ts w v b wr)(d:TW tb sv ts c wr e w'):WkV w0 tb sv ts w v b c e w':=by obtain⟨a,i,f,k⟩:=h;obtain⟨m,l,j,rfl,p,r,s,t,u⟩:=d;exact⟨m,rfl,⟨a,j,f.call t u s,k⟩,l,p,r⟩
theorem Wk.alloc{o:Obj}(h:Wk w0 tb sv ts w v b wr):Wk w0 tb sv ts w v b (wr.alloc o):=by obtain⟨a,i,d,e⟩:=h;exact⟨a,i,d.alloc,e⟩
theorem Wk.mono(h:Wk w0 tb sv ts w v b wr)(d:b<=c):Wk w0 tb sv ts w v c wr:=by obtain⟨a,i,e,f⟩:=h;exact⟨a,i,e,aG f d⟩
theorem Wk.start{i:Nat}(a:rG w0 tb sv ts w i):Wk w0 tb sv ts w (.slice none 0 0) 0 w:=⟨[],i,oz.start a,az _⟩
theorem Wk.tw(h:Wk w0 tb sv ts w v b wr):TW tb sv ts b w (.returned v) wr:=by obtain⟨d,i,a,e⟩:=h;exact⟨v,d,i,rfl,jq a.own.sl a.le,e,a.ten.le,a.ten.st,a.only⟩
theorem oZ{f:FuncId}{a:Array Value}(d:Hd (Wk w0 tb sv ts w v b wr))(h:∀i,rG w0 tb sv ts wr i->Calls Tryz.prog f a wr (TW tb sv ts c wr)):Calls Tryz.prog f a wr (WkV w0 tb sv ts w v b c):=by obtain⟨j,i,k,p⟩:=id d.o;exact(h i k.ten).mono fun e w' m=>Wk.call d.o m
theorem Fg(bs:List ByteArray)(n c:Nat)(h:Hd (Wk w0 tb sv ts w v b wr))(a:1<=bs.length)(d:bs.length<=100)(f:∀x∈bs,x.size<=100)(j:∀x∈bs.map signs,x.length<=c)(k:n=bs.length):Calls Tryz.prog 33 #[.pointer (some ⟨tb,0,none⟩),.slice (some ⟨wr.heap.size,0,none⟩) n n] (wr.alloc (.cells (bs.map Value.string).toArray 9)) (WkV w0 tb sv ts w v b c):=by obtain⟨m,i,p,s⟩:=id h.o;exact(Ff bs n c wr i p.ten a d f j k).mono fun e w' r=>Wk.call (Wk.alloc h.o) r
theorem Fh(a:Hd (Wk w0 tb sv ts w v b wr)):Calls Tryz.prog 34 #[.pointer (some ⟨tb,0,none⟩)] wr (WkV w0 tb sv ts w v b 2):=oZ a fun i hi=>Yx wr i hi
theorem Fj(a:Hd (Wk w0 tb sv ts w v b wr)):Calls Tryz.prog 36 #[.pointer (some ⟨tb,0,none⟩)] wr (WkV w0 tb sv ts w v b 21):=oZ a fun i hi=>Sn wr i hi
theorem aaF(d:Hd (Wk w0 tb sv ts w v b wr)):Calls Tryz.prog 49 #[.pointer (some ⟨tb,0,none⟩)] wr (WkV w0 tb sv ts w v b 51):=oZ d fun i hi=>(Nb wr i hi).mono (by rintro e w'⟨f,rfl,h,j,k⟩;have a:=TP.aag (ts:=ts) hi.le;exact⟨f,_,_,rfl,h.sl,a.2.2,a.2.1,j,k⟩)
def Nxw(w0:World)(tb:Nat)(sv:Value)(ts:List Int)(w:World)(v:Value)(b:Nat)(k:Int)(e:Ending)(w':World):Prop:=∃z:Int,e=.returned (.int .i64 z)/\0<=z/\z<k/\Wk w0 tb sv ts w v b w'
theorem Jj(k:Int)(f:1<=k/\k<=1000000)(h:Hd (Wk w0 tb sv ts w v b wr)):Calls Tryz.prog 32 #[.pointer (some ⟨tb,0,none⟩),.int .i64 k] wr (Nxw w0 tb sv ts w v b k):=by obtain⟨a,i,d,j⟩:=id h.o;refine(rf k wr i d.ten f).mono ?_;rintro e w'⟨rfl,m,p⟩;have r:=TP.sj ts i (n:=k.toNat) (by omega);exact⟨_,rfl,by omega,by omega,a,_,d.call m p (TP.mo _ d.ten.le),j⟩
variable{ops:Array Oper}{rest:List Oper}{o:Oper}{a:Act}{Q:Exit->Act->World->Prop}
theorem kC(r:Hd (Wk w0 tb sv ts w v b wr))(cells:Array Value)(ys:List Int)(k:Nat)(f:o.guard=none)(s x:Operand)(t:o.op=.call {callee:=.builtin .append,args:=#[s,x],argTypes:=#[24,24]})(u:a.eval s=v)(z:a.eval x=.slice (some ⟨wr.heap.size,0,none⟩) k k)(m:cells=(ys.map (Value.int .i32)).toArray)(A:k=ys.length)(B:k<=100)(F:b+k<=900000)(h:∀e w',Wk w0 tb sv ts w e (b+k) w'->wpList Tryz.prog ops Q rest (a.put o.dst e) w'):wpList Tryz.prog ops Q (o::rest) a (wr.alloc (.cells cells 21)):=by
 obtain⟨d,i,p,G⟩:=id r.o;subst m A;refine pI f s x t w.heap.size v d ys p.alloc.own u ⟨wr.heap.size,0,none⟩ ys.length ys.length z rfl (fun j y C=>?_) (by omega) (by omega) (aG (jF p.only) (by simp)) ?_
 .rw[Go.WideShapes.add_plain,oJ];simp[C]
 .intro e w' D E;exact h e w' ⟨d++ys,i,p.alloc.app D E,by rw[ai];omega⟩
theorem pg(m:Hd (Wk w0 tb sv ts w v b wr))(f:Value)(p:Hd (Vl tb wr f c))(j:o.guard=none)(s x:Operand)(r:o.op=.call {callee:=.builtin .append,args:=#[s,x],argTypes:=#[24,24]})(t:a.eval s=v)(u:a.eval x=f)(C:b+c<=900000)(h:∀e w',Wk w0 tb sv ts w e (b+c) w'->wpList Tryz.prog ops Q rest (a.put o.dst e) w'):wpList Tryz.prog ops Q (o::rest) a wr:=by obtain⟨d,i,k,D⟩:=id m.o;obtain⟨l,z,E⟩:=id p.o;refine iG j s x r w.heap.size (tb+1) v f d l k.own t u z (by omega) (by omega) (jF k.only) ?_;intro e w' A B;exact h e w' ⟨d++l,i,k.app A B,by rw[ai];omega⟩
end
def bsF:List ByteArray:=[⟨#[]⟩,⟨#[103]⟩,⟨#[105]⟩,⟨#[103,105]⟩,⟨#[105,103]⟩,⟨#[]⟩]
section
variable{w0:World}{tb:Nat}{sv:Value}{ts:List Int}
theorem Ce(w:World)(i:Nat)(G:rG w0 tb sv ts w i):Calls Tryz.prog 35 #[.pointer (some ⟨tb,0,none⟩)] w (TW tb sv ts 400 w):=by
 obtain⟨a,J⟩:∃a,TP.pat ts 1 i=a:=⟨_,rfl⟩;have s:=TP.Yy ts i G.le;have K:=jd (fun W(hW:rG w0 tb sv ts W i)=>J▸aal W i hW);rw[J]at s;obtain⟨p,S⟩:=a;dsimp only at s K;have D:oz w0 tb sv ts w i (.slice (some ⟨w.heap.size,0,none⟩) 1 1) [47] (w.alloc (.cells #[.int .i32 47] 21)):=
  ⟨G.alloc,(aJ w tb).alloc _,jP _ _ _ _ rfl rfl (az _) (by simp) rfl fun k y B=>(by match k,B with|0,B=>simp at B;subst B;exact⟨[.int .i32 47],rfl,rfl,fun i u hu=>by simpa using hu⟩|k+1,B=>simp at B),G.tbl⟩;have d:=jd D;clear D J G;go_enter Tryz.func35,Tryz.ntmps35;go_upto_region 3 with(go_at_call 48;refine(K.o _ d.o.ten).mono ?_;rintro e w2⟨v2,rfl,t,T,U⟩;have V:=jd (iB d.o T U s.1);have z:=jd t;obtain⟨L,c2,rfl,-⟩:=t.form;clear t T U);have X:=jd (show∀g,(Value.slice (some ⟨w.heap.size,0,none⟩) 1 1).ownBlock=some g->(Value.slice L p.length c2).ownBlock≠some g from fun g Y e=>(by have H:=(z.o.lt g e).1;have M:w.heap.size=g:=xg Y;rw[fH]at H;omega));have hpl:p.length<=315:=s.2;go_loopw[3,10](fun v n wr=>∃(k:Nat)(f:List Int),k<=p.length/\n=.int .i64 (k:Int)/\oz w0 tb sv ts w S v f wr/\f.length=k+1/\ay 21 1 Cc (w.heap.size+1) wr (.slice L p.length c2) p/\∀g,v.ownBlock=some g->(Value.slice L p.length c2).ownBlock≠some g)(fun _ n _=>p.length-(intOf n).toNat);case atStart=>exact⟨0,[47],aL _,rfl,V.o,rfl,by have:=z.o;rw[fH]at this;exact this,X.o⟩
 case round=>
  obtain⟨k,f,hk,rfl,I,N,E,A⟩:=hrel;clear V z X d K;by_cases O:k<p.length
  .obtain⟨g,rfl,Y,m,-,-⟩:=E.get O;generalize p[k]=Z at m;have hgs:=(E.lt g rfl).2;have P:=jd I;have Q:=jd E;have ZB:=jd A;clear I E A;have aeZ:=jd m;go_wp2_with(at_builtin;refine OC rfl _ _ rfl w.heap.size _ f [Z] P.o.alloc.own rfl ⟨wr.heap.size,0,none⟩ 1 1 rfl rfl (jE rfl) ?hn ?hB ?_;(case hn=>simp;omega);(case hB=>exact jF P.o.alloc.only);intro v' w' H M h3;have H1:=jd H;have H2:=jd M;have H3:=jd h3;clear H M h3);go_roundw;case rel=>
    exact⟨k+1,f++[Z],by omega,by go_num,P.o.alloc.app H1.o H2.o,by simp[N],ay.other (ay.jC Q.o) (fun C j=>H2.o.block C (by have:=(Q.o.lt C j).2;rw[fH];omega) (fun e=>ZB.o C e.symm j)),fun C j e'=>(by
     rcases H3.o with h|h
     .exact ZB.o C (h▸j) e'
     .rw[h]at j;have h5:=xg j;have h4:=(Q.o.lt C e').2;rw[fH]at h5;omega)⟩
   case measure=>simp[intOf];omega
  .have hk2:k=p.length:=by omega
   have d:=jd (show Wk w0 tb sv ts w _ 316 wr from⟨f,S,I,by omega⟩);clear I E A;have bW:True:=trivial;go_wp2_with(first|(at_builtin;refine kC d #[.int .i32 47] [47] 1 rfl _ _ rfl rfl rfl rfl rfl (by decide) (by omega) ?_;intro R wc r;have d:=jd r;clear r)|(go_at_call 49;refine(aaF d).mono ?_;rintro e wc⟨R,rfl,r,F⟩;have d:=jd r;have z:=jd F;clear r F)|(go_at_call 33;refine(Fg bsF _ 2 d (by decide) (by decide) (by decide) (by decide) rfl).mono ?_;rintro e wc⟨R,rfl,r,F⟩;have d:=jd r;have z:=jd F;clear r F)|(at_builtin;refine pg d _ z rfl _ _ rfl rfl rfl (by omega) ?_;intro R wc r;have d:=jd r;clear r z)|fail);go_ret;exact TW.mono d.o.tw (by omega)
end
structure MN where
 x:SH.dC
 vt:Value
 vi:Value
 vp:Value
 vf:Value
def Cm(_:World)(cs:List Value)(m:MN):Prop:=cs=De m.x m.vt m.vi m.vp m.vf
theorem Dq(T:List TypeId):fO T Cm:=fun _ _ _ _ _ h=>h
structure ZE(w wr:World)(n:Nat)(m:MN):Prop where
 items:Jv w m.vi m.x.items
 pat:ib w m.vp m.x.pat
 forms:Jw w m.vf m.x.forms
 fb:SH.tot m.x.items<=100000/\m.x.pat.length<=100000/\FM.nH m.x.forms<=100000
 txt:m.x.kind=0->ay 21 1 Cc w.heap.size wr m.vt m.x.text/\m.x.text.length<=300*n
 oth:m.x.kind≠0->ib w m.vt m.x.text/\m.x.text.length<=300
structure vg(w:World)(tb:Nat)(v:Value)(ms:List MN)(f:Nat->Int)(n:Nat)(wr:World):Prop where
 ext:Ext w wr
 lo:w.heap.size<=tb
 FE:wr.heap[tb]?=some (.cells (its f) 3 (0,0))
 R4:∀j,j<14->0<=f j/\f j<=ms.length
 own:ay 28 9 Cm w.heap.size wr v ms
 ok:∀m∈ms,ZE w wr n m
 sep:∀(j k:Nat)(a b:MN),ms[j]?=some a->ms[k]?=some b->j≠k->a.x.kind=0->b.x.kind=0->∀g,a.vt.ownBlock=some g->b.vt.ownBlock≠some g
section
variable{w wr w':World}{tb n:Nat}{v v':Value}{ms:List MN}{f f':Nat->Int}{m:MN}
theorem ZE.keep(h:ZE w wr n m)(i:∀g a,m.vt.ownBlock=some g->wr.heap[g]?=some (.cells a 21 (0,0))->w'.heap[g]?=some (.cells a 21 (0,0))){d:Nat}(j:n<=d):ZE w w' d m:=⟨h.items,h.pat,h.forms,h.fb,fun e=>⟨(h.txt e).1.pV (fun _ _ k=>k) i,aG (h.txt e).2 (Nat.mul_le_mul_left _ j)⟩,h.oth⟩
theorem vg.aj(h:vg w tb v ms f n wr)(a:Ext wr w'){d:Nat}(e:n<=d):vg w tb v ms f d w':=⟨h.ext.trans a,h.lo,a.heap h.FE,h.R4,h.own.gM (Dq []) (au a) (au a),fun m i=>(h.ok m i).keep (fun _ _ _ j=>a.heap j) e,h.sep⟩
theorem vg.nums(h:vg w tb v ms f n wr)(p:Only wr w' tb)(r:w'.heap[tb]?=some (.cells (its f') 3 (0,0)))(s:∀j,j<14->0<=f' j/\f' j<=ms.length):vg w tb v ms f' n w':=by
 have i:∀(g:Nat)(a:Array Value)(t:TypeId),t≠3->wr.heap[g]?=some (.cells a t (0,0))->w'.heap[g]?=some (.cells a t (0,0)):=fun g a t u d=>
  (p.block g (ag d) (by intro e;injection e with e;subst e;rw[h.FE]at d;injection d with d;injection d with _ d _;exact u d.symm)).trans d;exact⟨h.ext.only p h.lo,h.lo,r,s,h.own.pV (fun _ _ z=>z) (fun g a _ k=>i g a _ (by decide) k),fun m A=>(h.ok m A).keep (fun g a _ k=>i g a _ (by decide) k) (az _),h.sep⟩
theorem vg.push(h:vg w tb v ms f n wr)(L:ay 28 9 Cm w.heap.size w' v' (ms++[m]))(I:wr.grownBy w' v.ownBlock)(M:ZE w wr n m)(J:m.x.kind=0->∀a∈ms,a.x.kind=0->∀g,a.vt.ownBlock=some g->m.vt.ownBlock≠some g):vg w tb v' (ms++[m]) f n w':=by
 have s:∀(g:Nat)(d:Array Value)(t:TypeId),t≠28->wr.heap[g]?=some (.cells d t (0,0))->w'.heap[g]?=some (.cells d t (0,0)):=fun g d t N u=>
  (I.block g (ag u) (by intro e;obtain⟨O,A⟩:=h.own.type g e.symm;rw[u]at A;injection A with A;injection A with _ A _;exact N A)).trans u;refine⟨h.ext.grown I (fun k p=>(h.own.lt k p).1),h.lo,s tb _ _ (by decide) h.FE,fun j B=>?_,L,fun a i=>?_,fun j k a b i r D E z g u=>?_⟩
 .have:=h.R4 j B;rw[ai];simp;omega
 .rcases iN.1 i with i|i
  .exact(h.ok a i).keep (fun g d _ F=>s g d _ (by decide) F) (az _)
  .simp at i;subst i;exact M.keep (fun g d _ F=>s g d _ (by decide) F) (az _)
 .rcases fC j ms.length with B|B
  .rw[lK B]at i;rcases fC k ms.length with p|p
   .rw[lK p]at r;exact h.sep j k a b i r D E z g u
   .rw[nN p]at r;have G:b=m:=by have:=(dh.1 r);obtain⟨K,C⟩:=this;simp at C;exact C.symm
    subst G;exact J z a (tJ i) E g u
  .rw[nN B]at i;obtain⟨K,C⟩:=dh.1 i;simp at C K;subst C;rcases fC k ms.length with p|p
   .rw[lK p]at r;exact fun e=>J E b (tJ r) z g e u
   .rw[nN p]at r;obtain⟨H,_⟩:=dh.1 r;simp at H;omega
theorem vg.at_{A:Option Addr}{q c:Nat}(h:vg w tb (.slice A q c) ms f n wr){k:Nat}(e:k<ms.length):∃g a,A=some ⟨g,0,none⟩/\wr.heap[g]?=some (.cells a 28 (0,0))/\∀(i:Nat)(u:Value),(De ms[k].x ms[k].vt ms[k].vi ms[k].vp ms[k].vf)[i]?=some u->a[k*9+i]?=some u:=by obtain⟨g,a,s,j,_,p,d,_,r,_⟩:=h.own.Xd e;unfold Cm at d;subst d;exact⟨g,a,j,p,r⟩
theorem vg.aa6{g:Nat}{d:Array Value}{t:TypeId}(h:vg w tb v ms f n wr)(j:m∈ms)(k:m.x.kind=0)(i:wr.heap[g]?=some (.cells d t (0,0)))(p:t≠21)(r:wr.grownBy w' m.vt.ownBlock):w'.heap[g]?=some (.cells d t (0,0)):=by refine(r.block g (ag i) (fun e=>?_)).trans i;obtain⟨s,a⟩:=(((h.ok m j).txt k).1).type g e.symm;rw[i]at a;injection a with a;injection a with _ a _;exact p a
theorem vg.grow{g q c k:Nat}{C:Value}{ys:List Int}(h:vg w tb (.slice (some ⟨g,0,none⟩) q c) ms f n wr)(D:k<ms.length)(K:ms[k].x.kind=0)(h1:ay 21 1 Cc w.heap.size w' C (ms[k].x.text++ys))(Y:wr.grownBy w' ms[k].vt.ownBlock)(L:C.ownBlock=ms[k].vt.ownBlock\/C.ownBlock=some wr.heap.size)(hy:ys.length<=300):vg w tb (.slice (some ⟨g,0,none⟩) q c) (ms.set k {ms[k]with x:={ms[k].x with text:=ms[k].x.text++ys},vt:=C}) f (n+1) (w'.setCell ⟨g,k*9+3,none⟩ C):=by
 have E:ms[k]∈ms:=bK D;obtain⟨g',H,cs,M,hb,hh,N,-,-,O⟩:=h.own.Xd D;injection M with M;injection M with M _ _;subst M;have I9:=h.aa6 E K hh (by decide) Y;have Z:=h.aa6 E K h.FE (by decide) Y;have P:=(h.ok _ E).txt K;have A:∀(b:Nat)(H:Array Value)(t:TypeId),t≠28->w'.heap[b]?=some (.cells H t (0,0))->(w'.setCell ⟨g,k*9+3,none⟩ C).heap[b]?=some (.cells H t (0,0)):=by
  intro b Gg t ht r;have hbg:b≠g:=by intro e;subst e;rw[I9]at r;injection r with r;injection r with _ r _;exact ht r.symm
  rw[eu hbg];exact r
 refine⟨(h.ext.grown Y (fun k D=>(P.1.lt k D).1)).set (p:=⟨g,_,none⟩) hb _,h.lo,A _ _ _ (by decide) Z,fun j F=>by rw[gK];exact h.R4 j F,?_,fun a G=>?_,fun j j' a b G d I u Q e he=>?_⟩
 .refine O Cm (w'.setCell ⟨g,k*9+3,none⟩ C) C 3 _ (by decide) (fun _ _ R=>R) ?_ (aP I9);unfold Cm at N⊢;rw[N];rfl
 .obtain⟨j,F⟩:=List.getElem?_of_mem G;by_cases s:k=j
  .subst s;rw[uH D]at F;injection F with F;subst F;have z:=h.ok _ E;refine⟨z.items,z.pat,z.forms,z.fb,fun _=>⟨?_,?_⟩,fun A=>absurd K A⟩
   .exact h1.pV (fun _ _ R=>R) (fun b cu _ J=>A b cu _ (by decide) J)
   .simp only[ai];have:=P.2;omega
  .rw[oP s]at F;have qo:=tJ F;have z:=h.ok a qo;refine⟨z.items,z.pat,z.forms,z.fb,fun u=>⟨?_,aG (z.txt u).2 (Nat.mul_le_mul_left _ (Nat.le_succ _))⟩,z.oth⟩;refine(z.txt u).1.pV (fun _ _ R=>R) (fun b cu J S=>A b cu _ (by decide) ?_);refine(Y.block b (ag S) (fun e=>?_)).trans S;exact h.sep j k a ms[k] F (aU D) (fun e=>s e.symm) u K b J e.symm
 .have T:∀(i:Nat)(x:MN),i≠k->ms[i]?=some x->x.x.kind=0->x.vt.ownBlock=some e->C.ownBlock≠some e:=by
   intro i x hik hx U V B;rcases L with L|L
   .rw[L]at B;exact h.sep i k x ms[k] hx (aU D) hik U K e V B
   .have:=(((h.ok x (tJ hx)).txt U).1.lt e V).2;rw[L]at B;injection B with B;omega
  by_cases s:k=j
  .subst s;rw[uH D]at G;injection G with G;subst G;rw[oP I]at d;exact fun hbe=>T j' b (fun e=>I e.symm) d Q hbe he
  .rw[oP s]at G;by_cases X:k=j'
   .subst X;rw[uH D]at d;injection d with d;subst d;exact T j a (fun e=>s e.symm) G u he
   .rw[oP X]at d;exact h.sep j j' a b G d I u Q e he
theorem vg.done(h:vg w tb v ms f n wr):jH wr v (ms.map MN.x):=by
 obtain⟨A,c,rfl,t,z,p,B⟩:=h.own.sl;refine⟨A,c,by rw[fP],by rw[fP];exact t,z,fun k x a=>?_,fun e=>by have:=p e;exact this⟩;rw[List.getElem?_map,Br]at a;obtain⟨m,a,rfl⟩:=a;have C:=(dh.1 a).1;cases A with
 |none=>have:=p rfl;omega
 |some D=>
  obtain⟨g,o,j,rfl,_,E,_,F⟩:=B D rfl;obtain⟨I,r,G⟩:=F k m a;unfold Cm at r;subst r;have d:=h.ok m (tJ a);refine⟨g,o,rfl,m.vt,m.vi,m.vp,m.vf,⟨?_,d.items.ext h.ext,d.pat.ext h.ext,d.forms.ext h.ext⟩,fun i u H=>(cell_of_row wr g _ j 28 (0,0) E).trans (G i u H)⟩;by_cases s:m.x.kind=0
  .exact(d.txt s).1.sl.mV
  .exact(d.oth s).1.ext h.ext
theorem vg.fb(h:vg w tb v ms f n wr)(j:n<=300):∀x∈ms.map MN.x,FB 100000 x:=by
 intro x e;obtain⟨m,i,rfl⟩:=xu.1 e;have a:=h.ok m i;refine⟨?_,a.fb⟩;by_cases d:m.x.kind=0
 .have:=(a.txt d).2;omega
 .have:=(a.oth d).2;omega
end
def QA(c:Int):Bool:=c==36||c==123||c==125||c==58||c==124||c==44||c==47||c==92
theorem V3(c:Int)(w:World):Calls Tryz.prog 24 #[.int .i32 c] w (qV (QA c) w):=by
 rcases(show c=36\/c=123\/c=125\/c=58\/c=124\/c=44\/c=47\/c=92\/((c==36)=false/\(c==123)=false/\(c==125)=false/\(c==58)=false/\(c==124)=false/\(c==44)=false/\(c==47)=false/\(c==92)=false)by simp;omega)with rfl|rfl|rfl|rfl|rfl|rfl|rfl|rfl|⟨a,d,e,f,h,i,j,k⟩;all_goals
  go_enter Tryz.func24,Tryz.ntmps24;go_wp2_with fail;go_ret
 any_goals exact⟨rfl,rfl⟩
 exact⟨aH (by unfold QA;rw[a,d,e,f,h,i,j,k];rfl),rfl⟩
def aaV(s:List Int)(at_:Nat)(w:World)(e:Ending)(w':World):Prop:=∃n k:Nat,e=.returned (.tuple #[.int .i64 (n:Int),.int .i64 (k:Int)])/\n<=999/\(k=0\/(at_<k/\k<=s.length))/\Ext w w'
theorem zF(s:List Int)(v:Value)(a:Nat)(w:World)(B:ib w v s):Calls Tryz.prog 28 #[v,.int .i64 (a:Int)] w (aaV s a w):=by
 have H:=jd B;obtain⟨A,O,rfl,E,F,-⟩:=B;have j:=jd sG;go_enter Tryz.func28,Tryz.ntmps28;go_wp2_with fail;go_loop[6,7](fun n x=>∃m k:Nat,m<=1000/\a<=k/\(k=a\/k<=s.length)/\n=.int .i64 (m:Int)/\x=.int .i64 (k:Int))(fun _ x=>s.length-(intOf x).toNat);case atStart=>exact⟨0,a,by omega,az _,.inl rfl,rfl,rfl⟩
 case round=>
  obtain⟨m,k,P,G,I,rfl,rfl⟩:=hrel;by_cases p:k<s.length
  .obtain⟨b,o,rfl,J⟩:=H.o.at_ p;obtain⟨x,C⟩:∃x,s[k]=x:=⟨_,rfl⟩;rw[C]at J;clear C;rcases h:FM.Cw x with _|_
   .have i:=jd h;clear h;by_cases d:k=a;focus
     have r:((k:Int)==(a:Int))=true:=by simp[d]
     clear d
    rotate_left;focus
     have r:((k:Int)==(a:Int))=false:=by simp;omega
     by_cases K:999<m;focus
      have f:(999:Int)<m:=by omega
     rotate_left
     .have f:¬(999:Int)<m:=by omega
      go_wp2_with(go_at_call 25;refine(j.o x _).mono ?_;rw[i.o];rintro e D⟨rfl,rfl⟩);go_ret2;exact⟨m,k,rfl,by omega,.inr ⟨by omega,by omega⟩,aa _⟩
    rotate_left;all_goals
     go_wp2_with(go_at_call 25;refine(j.o x _).mono ?_;rw[i.o];rintro e D⟨rfl,rfl⟩);go_ret2;exact⟨0,0,rfl,by omega,.inl rfl,aa _⟩
   .have i:=jd h;have t:48<=x/\x<=57:=by simpa[FM.Cw]using h
    obtain⟨L,M⟩:=t;clear h;go_wp2_with(go_at_call 25;refine(j.o x _).mono ?_;rw[i.o];rintro e D⟨rfl,rfl⟩);go_round;case rel=>obtain⟨z,N,u⟩:∃z:Nat,(if(1000:Int)<10*(m:Int)+(x-48)then 1000 else 10*(m:Int)+(x-48))=(z:Int)/\z<=1000:=⟨(if(1000:Int)<10*(m:Int)+(x-48)then 1000 else 10*(m:Int)+(x-48)).toNat,by split<;>omega,by split<;>omega⟩;exact⟨z,k+1,u,by omega,.inr (by omega),by congr 1;first|exact N|omega,by go_num⟩
    case measure=>simp[intOf];omega
  .by_cases d:k=a
   .have r:((k:Int)==(a:Int))=true:=by simp[d]
    go_wp2_with fail;go_ret2;exact⟨0,0,rfl,by omega,.inl rfl,aa _⟩
   .have r:((k:Int)==(a:Int))=false:=by simp;omega
    by_cases K:999<m
    .have f:(999:Int)<m:=by omega
     go_wp2_with fail;go_ret2;exact⟨0,0,rfl,by omega,.inl rfl,aa _⟩
    .have f:¬(999:Int)<m:=by omega
     go_wp2_with fail;go_ret2;exact⟨m,k,rfl,by omega,.inr ⟨by omega,by omega⟩,aa _⟩
theorem V4:(Tryz.prog.info? 24).map (fun i=>(i.zero,i.size,i.bytes))=some (some (.slice none 0 0),1,24):=by kernel_rfl
def Rv(_:World)(cs:List Value)(u:Value):Prop:=cs=[u]
theorem LJ(T:List TypeId):fO T Rv:=fun _ _ _ _ _ h=>h
structure Ck(w:World)(T:Nat)(v vt:Value)(us:List Value)(tx:List Int)(n:Nat)(wr:World):Prop where
 ext:Ext w wr
 lo:w.heap.size<=T
 top:T<=wr.heap.size
 old:∀u∈us,∃t,aT 21 1 Cc 0 wr u t/\M4 T u/\t.length<=n
 own:ay 24 1 Rv w.heap.size wr v (us++[vt])
 txt:ay 21 1 Cc T wr vt tx
 len:us.length<=n/\tx.length<=n
section
variable{w wr w':World}{T n:Nat}{v vt v':Value}{us:List Value}{tx:List Int}
theorem Ck.aj(h:Ck w T v vt us tx n wr)(a:Ext wr w'):Ck w T v vt us tx n w':=⟨h.ext.trans a,h.lo,aG h.top a.size,fun u d=>(by obtain⟨t,e,f,i⟩:=h.old u d;exact⟨t,e.Fz (au a),f,i⟩),h.own.gM (LJ []) (au a) (au a),h.txt.gM (dQ []) (au a) (au a),h.len⟩
theorem Ck.mono{a:Nat}(h:Ck w T v vt us tx n wr)(i:n<=a):Ck w T v vt us tx a wr:=⟨h.ext,h.lo,h.top,fun u d=>(by obtain⟨t,e,f,j⟩:=h.old u d;exact⟨t,e,f,by omega⟩),h.own,h.txt,by have:=h.len;omega⟩
theorem Ck.start(w:World):Ck w w.heap.size (.slice (some ⟨w.heap.size,0,none⟩) 1 1) (.slice none 0 0) [] [] 0 (w.alloc (.cells #[.slice none 0 0] 24)):=⟨(aa w).alloc _,az _,by simp,(fun u d=>by cases d),jP _ _ _ _ rfl rfl (az _) (by simp) rfl (fun k y a=>by match k,a with|0,a=>simp at a;subst a;exact⟨_,rfl,rfl,fun i u d=>by simpa using d⟩|k+1,a=>simp at a),dO,by simp⟩
theorem Ck.last{A:Option Addr}{m c:Nat}(h:Ck w T (.slice A m c) vt us tx n wr):∃g a,A=some ⟨g,0,none⟩/\wr.heap[g]?=some (.cells a 24 (0,0))/\a[us.length]?=some vt:=by obtain⟨g,a,j,e,_,f,d,_,i,_⟩:=h.own.Xd (k:=us.length) (by simp);unfold Rv at d;rw[List.getElem_append_right (az _)]at d;simp at d;subst d;have:=i 0 vt rfl;exact⟨g,a,e,f,by simpa using this⟩
theorem Ck.box{g:Nat}{d:Array Value}(h:Ck w T v vt us tx n wr)(f:wr.heap[g]?=some (.cells d 24 (0,0)))(i:wr.grownBy w' vt.ownBlock):w'.heap[g]?=some (.cells d 24 (0,0)):=by refine(i.block g (ag f) (fun e=>?_)).trans f;obtain⟨j,a⟩:=h.txt.type g e.symm;rw[f]at a;injection a with a;injection a with _ a _;exact absurd a (by decide)
theorem Ck.more{g m c:Nat}{r:Int}(h:Ck w T (.slice (some ⟨g,0,none⟩) m c) vt us tx n wr)(I:ay 21 1 Cc T w' v' (tx++[r]))(C:wr.grownBy w' vt.ownBlock):Ck w T (.slice (some ⟨g,0,none⟩) m c) v' us (tx++[r]) (n+1) (w'.setCell ⟨g,us.length,none⟩ v'):=by
 have i:=fun k E=>(h.txt.lt k E).1;obtain⟨N,J,O,j,K,L,s,-,-,z⟩:=h.own.Xd (k:=us.length) (by simp);injection j with j;injection j with j _ _;subst j;have G:=h.box L C;have A:∀f B,w'.heap[f]?=some (.cells B 21 (0,0))->f≠g:=by intro f B a e;subst e;rw[G]at a;injection a with a;injection a with _ a _;exact absurd a (by decide)
 refine⟨(h.ext.grown C (fun k E=>aG h.lo (i k E))).set (p:=⟨g,_,none⟩) K _,h.lo,aG h.top (aG C.size (by simp)),fun u M=>?_,?_,?_,by have:=h.len;rw[ai];simp;omega⟩
 .obtain⟨t,D,H,P⟩:=h.old u M;refine⟨t,D.M5 H (fun f B a d=>?_),H,by omega⟩;have D:w'.heap[f]?=some (.cells B 21 (0,0)):=(C.block f (ag d) (by intro e;have:=i f e.symm;omega)).trans d;rw[eu (A f _ D)];exact D
 .have:=z Rv (w'.setCell ⟨g,us.length,none⟩ v') v' 0 v' (by decide) (fun _ _ F=>F) (by unfold Rv at s⊢;rw[s];simp) (by rw[sU,fB];exact aP G);rw[List.set_append_right _ _ (az _)]at this;simpa using this
 .refine I.pV (fun _ _ F=>F) (fun f B _ d=>?_);rw[eu (A f _ d)];exact d
theorem Ck.new(h:Ck w T v vt us tx n wr)(p:ay 24 1 Rv w.heap.size w' v' ((us++[vt])++[.slice none 0 0]))(e:wr.grownBy w' v.ownBlock):Ck w w'.heap.size v' (.slice none 0 0) (us++[vt]) [] (n+1) w':=by
 have f:aV [21] wr w':=kF e (fun g r=>by obtain⟨i,j⟩:=h.own.type g r;exact⟨i,_,j,by decide⟩);have d:∀{u:Value}{t:List Int},aT 21 1 Cc 0 wr u t->aT 21 1 Cc 0 w' u t:=fun s=>s.keep (dQ []) (f.sub (by simp)) f;refine⟨h.ext.grown e (fun k f=>(h.own.lt k f).1),aG h.ext.size e.size,az _,fun u a=>?_,p,dO,by have:=h.len;rw[ai];simp;omega⟩;rcases iN.1 a with a|a
 .obtain⟨t,z,j,A⟩:=h.old u a;exact⟨t,d z,j.mono (aG h.top e.size),by omega⟩
 .simp at a;subst a;have:=h.len.2;have m:=d (h.txt.sl.weaken (aL _));exact⟨tx,m,m.blo,by omega⟩
theorem Ck.done(h:Ck w T v vt us tx n wr):∃l:List (List Int),aT 24 1 Cx 0 wr v l/\l.length=us.length+1/\∀t∈l,t.length<=n:=by
 have f:∀u∈us++[vt],∃t,aT 21 1 Cc 0 wr u t/\t.length<=n:=by
  intro u a;rcases iN.1 a with a|a
  .obtain⟨t,i,z,j⟩:=h.old u a;exact⟨t,i,j⟩
  .simp at a;subst a;exact⟨tx,h.txt.sl.weaken (aL _),h.len.2⟩
 obtain⟨l,D,B⟩:=FC (n:=(us++[vt]).length) (P:=fun k t=>∃u,(us++[vt])[k]?=some u/\aT 21 1 Cc 0 wr u t/\t.length<=n) (fun k e=>by obtain⟨t,m,C⟩:=f _ (bK e);exact⟨t,_,aU e,m,C⟩);have d:l.length=us.length+1:=by rw[D];simp
 refine⟨l,?_,d,fun t E=>?_⟩
 .obtain⟨A,c,F,p,G,H,I⟩:=h.own.sl;refine⟨A,c,by rw[d];simpa using F,by rw[d];simpa using p,G,H,fun J r=>?_⟩;obtain⟨g,o,s,m,C,i,z,j⟩:=I J r;refine⟨g,o,s,m,aL _,i,z,fun k t e=>?_⟩;obtain⟨u,a,K,_⟩:=B k t e;obtain⟨L,M,N⟩:=j k u a;exact⟨L,⟨u,M,K⟩,N⟩
 .obtain⟨k,e,rfl⟩:=um.1 E;obtain⟨_,_,_,i⟩:=B k _ (aU e);exact i
theorem V5{n:Nat}:∀(l:List (List Int)),(∀t∈l,t.length<=n)->SH.tot l<=l.length*(n+1)
|[],_=>by simp[SH.tot]
|t::r,h=>by have d:=V5 r (fun x a=>h x (by simp[a]));have e:=h t (by simp);rw[SH.tot,aF,Nat.succ_mul];omega
end
def V6(s:List Int)(i:Nat)(w:World)(e:Ending)(w':World):Prop:=Ext w w'/\((∃v l k,e=.returned (.tuple #[v,.int .i64 (k:Nat)])/\i<k/\k<=s.length/\aT 24 1 Cx 0 w' v l/\SH.tot l<=100000)\/e=.returned (.tuple #[.slice none 0 0,.int .i64 0]))
theorem OU{s:List Int}{k:Nat}{c:Int}(h:CG s ((k:Int)+1)=c)(d:c≠-1):k+1<s.length:=by
 rcases fC (k+1) s.length with a|a
 .exact a
 .exfalso;apply d;rw[<-h];unfold CG;rw[ae (by omega),show((k:Int)+1).toNat=k+1 by omega,gD a];rfl
theorem YG{s:List Int}{k:Nat}(h:k+1<s.length):CG s ((k:Int)+1)=s[k+1]:=by unfold CG;rw[ae (by omega),show((k:Int)+1).toNat=k+1 by omega,aU h];rfl
theorem SB(s:List Int)(vs:Value)(i:Nat)(w:World)(Q:ib w vs s)(hi:i<=s.length)(hsl:s.length<=300):Calls Tryz.prog 30 #[vs,.int .i64 (i:Int)] w (V6 s i w):=by
 have H:=jd Q;have R:=jd (fun(j:Int)w'(h:Ext w w')=>uV s _ j w' (Q.ext h));obtain⟨As,ca,rfl,hlx,hcx,-⟩:=Q;go_enter Tryz.func30,Tryz.ntmps30;go_upto_region 2 with fail;go_loopw[1,6](fun x v wr=>∃(k T n c:Nat)(A:Option Addr)(vt:Value)(d:List Value)(tx:List Int),i<=k/\k<=s.length/\x=.int .i64 (k:Int)/\v=.slice A n c/\n=d.length+1/\Ck w T (.slice A n c) vt d tx k wr)(fun x _ _=>s.length-(intOf x).toNat);case atStart=>exact⟨i,_,_,_,_,_,_,_,az _,hi,rfl,rfl,rfl,(Ck.start w).mono (aL _)⟩
 case round=>
  obtain⟨k,T,n,c,A,vt,d,tx,hik,hk,rfl,rfl,hn,B⟩:=hrel;subst hn;have a:=jd B;have UT:=B.len;obtain⟨hu1,hu2⟩:=UT;clear B;by_cases S:k<s.length;rotate_left
  .go_wp2_with fail;go_ret2;exact⟨a.o.ext.trans (by(focus(repeat(first|exact aa _|apply ak|apply ah|apply af)))),.inr rfl⟩
  obtain⟨b,o,rfl,hc⟩:=(H.o.ext a.o.ext).at_ S;have G:=jd (R.o ((k:Int)+1));obtain⟨x,hx⟩:∃x,s[k]=x:=⟨_,rfl⟩;obtain⟨y,U⟩:∃y,CG s ((k:Int)+1)=y:=⟨_,rfl⟩;have V:=jd U;rw[hx]at hc;rw[U]at G;clear hx U;by_cases M:x=124
  .subst M;by_cases ig:y=125;focus
    have C:=OU V.o (by omega);subst ig;by_cases h20:20<d.length+1;rotate_left
    .go_wp2_with(first|(go_at_call 10;refine(G.o _ (a.o.ext.trans (by(focus(repeat(first|exact aa _|apply ak|apply ah|apply af)))))).mono ?_;rintro e N⟨rfl,O,rfl⟩)|fail);go_ret2;obtain⟨l,m,f,D⟩:=(a.o.aj (by(focus(repeat(first|exact aa _|apply ak|apply ah|apply af))))).done;have h4:=V5 l D;refine⟨a.o.ext.trans (by(focus(repeat(first|exact aa _|apply ak|apply ah|apply af)))),.inl ⟨_,l,k+2,?_,by omega,by omega,m,?_⟩⟩
     .go_num
     .have h5:l.length*(k+1)<=301*301:=yC (by omega) (by omega);omega
   rotate_left;focus
    have ae0:(y !=125)=true:=by simpa using ig
   rotate_left;all_goals
    go_wp2_with(first|(go_at_call 10;refine(G.o _ (a.o.ext.trans (by(focus(repeat(first|exact aa _|apply ak|apply ah|apply af)))))).mono ?_;rintro e N⟨rfl,O,rfl⟩)|fail);go_ret2;exact⟨a.o.ext.trans (by(focus(repeat(first|exact aa _|apply ak|apply ah|apply af)))),.inr rfl⟩
  by_cases X:x=44
  .subst X;clear M;go_wp2_with(at_builtin;refine fQ Tryz.underlying25 V4 rfl (by decide) (T:=[]) (LJ []) (by simp) rfl _ _ rfl w.heap.size _ (d++[vt]) (.slice none 0 0) [.slice none 0 0] 24 a.o.own rfl rfl (by simp[Value.oneCell']) rfl _ rfl rfl (by rw[ai];simp;omega) (by rw[ai];simp;omega) a.o.ext.size ?_;intro v2 Y m f;have dY:=jd (Ck.new (a.o.aj ((aa _).alloc _)) m f);obtain⟨A2,c2,rfl,-⟩:=m.form;clear m f);go_roundw;case rel=>exact⟨k+1,_,_,_,_,_,d++[vt],[],by omega,by omega,by go_num,rfl,by simp,by have:=dY.o;simp only[ai,aF,aN]at this;exact this⟩
   case measure=>simp[intOf];omega
  obtain⟨g,cur,rfl,I,E⟩:=a.o.last;have r:=jd I;have Z:=jd E;have hgl:=ag I;have hui:(d.length:Int)<(d.length:Int)+1:=by omega
  have P:=(cy d.length I).trans E;have f6:=fq d.length I;obtain⟨At,ct,rfl,-⟩:=a.o.txt.form;have Yw:(x==124)=false:=by simpa using M
  have b44:(x==44)=false:=by simpa using X
  clear I E M X;by_cases gu:x=92
  .subst gu;by_cases F:y=44\/y=124\/y=92
   .have C:=OU V.o (by omega);have Vb:(k:Int)+1<s.length:=by omega
    have aep:(0:Int)<=(k:Int)+1:=by omega
    obtain⟨b',o',hA,z⟩:=(H.o.ext a.o.ext).at_ C;injection hA with hA;injection hA with e1 e2 _;subst e1 e2;rw[<-YG C,V.o]at z;have hq:(y==44)=true\/((y==44)=false/\(y==124)=true)\/((y==44)=false/\(y==124)=false/\(y==92)=true):=by rcases F with rfl|rfl|rfl<;>simp
    clear F;rcases hq with q1|⟨q1,q2⟩|⟨q1,q2,q3⟩;all_goals
     go_upto_region 13 with(first|(go_at_call 10;refine(G.o _ (a.o.ext.trans (by(focus(repeat(first|exact aa _|apply ak|apply ah|apply af)))))).mono ?_;rintro e N⟨rfl,O,rfl⟩)|fail);generalize t:World.drewN wr _=J;have p:Ext wr J:=t▸(aa wr).drewN _;clear t;have a:=jd (a.o.aj p);have r:=jd (p.heap r.o);have P:=p.cell P;have f6:=fq d.length r.o;have hgl:=ag r.o;have K:=iP J _ (p.cell z);have z:=p.cell z;clear p;go_region_law(first|(refine qm rfl _ _ (by rfl) T _ tx [y] ((a.o.aj (by(focus(repeat(first|exact aa _|apply ak|apply ah|apply af))))).txt) (by simp[Act.eval]) _ 1 1 (by simp[Act.eval];rfl) rfl (by decide) ?hc (by omega) (aG a.o.top (jT (by(focus(repeat(first|exact aa _|apply ak|apply ah|apply af)))))) ?_;(case hc=>(first|exact bI (ys:=[y]) (aB _ _)|exact bI (ys:=[y]) (gG (by(focus(repeat(first|exact aa _|apply ak|apply ah|apply af)))) (aB _ _))|fail));intro g2 c2 Y m f D;have u:=(a.o.aj (by(focus(repeat(first|exact aa _|apply ak|apply ah|apply af))))).box (gG (by(focus(repeat(first|exact aa _|apply ak|apply ah|apply af)))) r.o) f;have d3:=(cy d.length u).trans Z.o;have e3:=fq d.length u;have L:=jd (Ck.more (a.o.aj (by(focus(repeat(first|exact aa _|apply ak|apply ah|apply af))))) m f);clear u m f D)|fail);all_goals
      go_wp2_with fail;go_roundw;case rel=>exact⟨k+2,_,_,_,_,_,d,_,by omega,by omega,by go_num,rfl,rfl,(L.o.mono (show k+1<=k+2 by omega)).aj (by(focus(repeat(first|exact aa _|apply ak|apply ah|apply af))))⟩
      case measure=>simp[intOf];omega
   .have y1:(y==44)=false:=by simp;omega
    have y2:(y==124)=false:=by simp;omega
    have y3:(y==92)=false:=by simp;omega
    clear F;go_upto_region 13 with(first|(go_at_call 10;refine(G.o _ (a.o.ext.trans (by(focus(repeat(first|exact aa _|apply ak|apply ah|apply af)))))).mono ?_;rintro e N⟨rfl,O,rfl⟩)|fail);generalize t:World.drewN wr _=J;have p:Ext wr J:=t▸(aa wr).drewN _;clear t;have a:=jd (a.o.aj p);have r:=jd (p.heap r.o);have P:=p.cell P;have f6:=fq d.length r.o;have hgl:=ag r.o;have K:=iP J _ (p.cell hc);have hc:=p.cell hc;clear p;go_region_law(first|(refine qm rfl _ _ (by rfl) T _ tx [92] ((a.o.aj (by(focus(repeat(first|exact aa _|apply ak|apply ah|apply af))))).txt) (by simp[Act.eval]) _ 1 1 (by simp[Act.eval];rfl) rfl (by decide) ?hc (by omega) (aG a.o.top (jT (by(focus(repeat(first|exact aa _|apply ak|apply ah|apply af)))))) ?_;(case hc=>(first|exact bI (ys:=[92]) (aB _ _)|exact bI (ys:=[92]) (gG (by(focus(repeat(first|exact aa _|apply ak|apply ah|apply af)))) (aB _ _))|fail));intro g2 c2 Y m f D;have u:=(a.o.aj (by(focus(repeat(first|exact aa _|apply ak|apply ah|apply af))))).box (gG (by(focus(repeat(first|exact aa _|apply ak|apply ah|apply af)))) r.o) f;have d3:=(cy d.length u).trans Z.o;have e3:=fq d.length u;have L:=jd (Ck.more (a.o.aj (by(focus(repeat(first|exact aa _|apply ak|apply ah|apply af))))) m f);clear u m f D)|fail);all_goals
     go_wp2_with fail;go_roundw;case rel=>exact⟨k+1,_,_,_,_,_,d,_,by omega,by omega,by go_num,rfl,rfl,L.o.aj (by(focus(repeat(first|exact aa _|apply ak|apply ah|apply af))))⟩
     case measure=>simp[intOf];omega
  .have WV:(x==92)=false:=by simpa using gu
   clear gu;have K:=iP wr _ hc;go_upto_region 13 with(first|(go_at_call 10;refine(G.o _ (a.o.ext.trans (by(focus(repeat(first|exact aa _|apply ak|apply ah|apply af)))))).mono ?_;rintro e N⟨rfl,O,rfl⟩)|fail);go_region_law(first|(refine qm rfl _ _ (by rfl) T _ tx [x] ((a.o.aj (by(focus(repeat(first|exact aa _|apply ak|apply ah|apply af))))).txt) (by simp[Act.eval]) _ 1 1 (by simp[Act.eval];rfl) rfl (by decide) ?hc (by omega) (aG a.o.top (jT (by(focus(repeat(first|exact aa _|apply ak|apply ah|apply af)))))) ?_;(case hc=>(first|exact bI (ys:=[x]) (aB _ _)|exact bI (ys:=[x]) (gG (by(focus(repeat(first|exact aa _|apply ak|apply ah|apply af)))) (aB _ _))|fail));intro g2 c2 Y m f D;have u:=(a.o.aj (by(focus(repeat(first|exact aa _|apply ak|apply ah|apply af))))).box (gG (by(focus(repeat(first|exact aa _|apply ak|apply ah|apply af)))) r.o) f;have d3:=(cy d.length u).trans Z.o;have e3:=fq d.length u;have L:=jd (Ck.more (a.o.aj (by(focus(repeat(first|exact aa _|apply ak|apply ah|apply af))))) m f);clear u m f D)|fail);all_goals
    go_wp2_with fail;go_roundw;case rel=>exact⟨k+1,_,_,_,_,_,d,_,by omega,by omega,by go_num,rfl,rfl,L.o.aj (by(focus(repeat(first|exact aa _|apply ak|apply ah|apply af))))⟩
    case measure=>simp[intOf];omega
end Go.Proofs.YtcogknbbbjnaiaaGreatDoor
