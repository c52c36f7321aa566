/- For ShowTells: what the texts XCdM XCdE XCeM XCeH XCeL XCeR XCdS XCeB XCeC of wip/tpl say. -/
import Derived.Test.YtcogknbbbjnaiaaGreatDoorAj
import Derived.Maps.AppendAt
set_option maxRecDepth 100000
set_option maxHeartbeats 4000000
namespace Go.Proofs.YtcogknbbbjnaiaaGreatDoor
section
open Go.RowKit
theorem Il{n:Nat}:∀(a:List (List Value)),(∀cs∈a,cs.length=n)->a.flatten.length=a.length*n/\(∀k i cs u,a[k]?=some cs->cs[i]?=some u->a.flatten[k*n+i]?=some u)/\∀j u,a.flatten[j]?=some u->∃k i cs,j=k*n+i/\i<n/\a[k]?=some cs/\cs[i]?=some u
|[],_=>⟨by simp,by intro k i cs u h;simp at h,by intro j u h;simp at h⟩
|c::r,h=>by
 have f:=h c (by simp);obtain⟨v,w,z⟩:=Il r (fun cs m=>h cs (by simp[m]));refine⟨by rw[xk,ai,v,f,aF,pJ];omega,fun k i cs u p hi=>?_,fun j u d=>?_⟩
 .have A:i<cs.length:=(dh.1 hi).1;rw[xk];cases k with
  |zero=>simp at p;subst p;rw[lK (by omega)];simpa using hi
  |succ k=>
   have e:(k+1)*n+i-c.length=k*n+i:=by rw[f,pJ];omega
   rw[nN (by rw[f,pJ];omega),e];exact w k i cs u (by simpa using p) hi
 .rw[xk]at d;rcases fC j c.length with s|t
  .rw[lK s]at d;exact⟨0,j,c,by omega,by omega,rfl,d⟩
  .rw[nN t]at d;obtain⟨k,i,cs,E,B,C,D⟩:=z _ u d;exact⟨k+1,i,cs,by rw[pJ];omega,B,by simpa using C,D⟩
theorem ZL{α:Type}{n:Nat}{P:Nat->α->Prop}(h:∀k,k<n->∃x,P k x):∃l:List α,l.length=n/\∀k x,l[k]?=some x->P k x:=by
 induction n with
 |zero=>exact⟨[],rfl,by intro k x h;simp at h⟩
 |succ n j=>
  obtain⟨l,m,p⟩:=j (fun k i=>h k (by omega));obtain⟨x,r⟩:=h n (by omega);refine⟨l++[x],by simp[m],fun k y a=>?_⟩;rcases fC k l.length with d|f
  .rw[lK d]at a;exact p k y a
  .rw[nN f]at a;have i:k-l.length=0:=by
    rcases xm (k-l.length)with e|e
    .exact e
    .rw[gD (by simp;omega)]at a;cases a
   rw[i]at a;simp at a;subst a;have:k=n:=by omega
   rw[this];exact r
theorem ay.plus{α:Type}{t sz:Nat}{C:World->List Value->α->Prop}{base:Nat}{w w':World}{A:Value}{xs ys:List α}{flat:List Value}{a:List (List Value)}{T:List TypeId}(F:∀k x,xs[k]?=some x->∃cs,C w cs x/\cs.length=sz/\∀i u,cs[i]?=some u->flat[k*sz+i]?=some u)(N:flat.length=xs.length*sz)(B:fO T C)(D:aV T w w')(p:a.length=ys.length)(E:∀cs∈a,cs.length=sz)(G:∀(k:Nat)(cs:List Value)(y:α),a[k]?=some cs->ys[k]?=some y->C w cs y)(f:w'.ownsRow base t sz A (xs.length+ys.length) (flat++a.flatten)):ay t sz C base w' A (xs++ys):=by
 obtain⟨-,H,-⟩:=Il a E;refine⟨flat++a.flatten,by rw[ai];exact f,fun k y d=>?_⟩;rcases fC k xs.length with r|s
 .rw[lK r]at d;obtain⟨I,J,K,L⟩:=F k y d;refine⟨I,B _ _ _ _ D J,K,fun i u v=>?_⟩;have z:=L i u v;rw[lK]
  .exact z
  .rcases fC (k*sz+i) flat.length with h|h
   .exact h
   .rw[gD h]at z;cases z
 .rw[nN s]at d;have j:k-xs.length<a.length:=by rw[p];exact(dh.1 d).1
  have m:=aU j;refine⟨a[k-xs.length],B _ _ _ _ D (G _ _ y m d),E _ (bK j),fun i u v=>?_⟩;have M:=H _ i _ u m v;have e:k*sz=xs.length*sz+(k-xs.length)*sz:=by rw[<-pJ];congr 1;omega
  rw[nN (by omega),show k*sz+i-flat.length=(k-xs.length)*sz+i by omega];exact M
section
variable{α:Type}{P:Program}{w:World}{ops:Array Oper}{rest:List Oper}{o:Oper}{a:Act}{Q:Exit->Act->World->Prop}{K:Act->World->Prop}{E:Prop}
theorem qN{H sz J:Nat}{C:World->List Value->α->Prop}(h:∀w cs x,C w cs x->cs.length=sz/\∀u∈cs,u.oneCell'=true){v:Addr}{n c:Nat}{ys:List α}(r:aT H sz C J w (.slice (some v) n c) ys):∃d:List (List Value),d.length=ys.length/\(∀cs∈d,cs.length=sz)/\(∀(k:Nat)(cs:List Value)(y:α),d[k]?=some cs->ys[k]?=some y->C w cs y)/\d.flatten.length=ys.length*sz/\(∀(j:Nat)(u:Value),d.flatten[j]?=some u->w.cell? (v.add j)=some u)/\∀u∈d.flatten,u.oneCell'=true:=by
 obtain⟨A,c',L,hl,hc,hn,M⟩:=r;injection L with N e2 O;subst N O;obtain⟨g,o,s,rfl,hb,R,ho,S⟩:=M v rfl;obtain⟨d,t,f⟩:=ZL (n:=ys.length) (P:=fun k cs=>∃y,ys[k]?=some y/\C w cs y/\∀(i:Nat)(u:Value),cs[i]?=some u->s[o+k*sz+i]?=some u) (fun k m=>by obtain⟨cs,p,z⟩:=S k _ (aU m);exact⟨cs,_,aU m,p,z⟩);have I:∀cs∈d,cs.length=sz:=by intro cs B;obtain⟨k,m,rfl⟩:=um.1 B;obtain⟨y,_,p,_⟩:=f k _ (aU m);exact(h _ _ _ p).1
 obtain⟨D,T,F⟩:=Il d I;refine⟨d,t,I,fun k cs y m U=>?_,by rw[D,t],fun j u V=>?_,fun u G=>?_⟩
 .obtain⟨y',p,z,-⟩:=f k cs m;rw[U]at p;obtain rfl:=xg p;exact z
 .obtain⟨k,i,cs,rfl,_,X,Y⟩:=F j u V;obtain⟨y,_,_,Z⟩:=f k cs X;have e:(⟨g,o,none⟩:Addr).add (k*sz+i)=⟨g,o+k*sz+i,none⟩:=by unfold Addr.add;split<;>simp_all[Nat.add_assoc]
  rw[e];exact(cell_of_row w g _ s H (0,0) R).trans (Z i u Y)
 .obtain⟨cs,B,G⟩:=List.mem_flatten.1 G;obtain⟨k,m,rfl⟩:=um.1 B;obtain⟨y,_,p,_⟩:=f k _ (aU m);exact(h _ _ _ p).2 u G
theorem JU{t e sz bytes:Nat}{z:Value}(V:P.underlying t=some (.slice e))(nC:(P.info? e).map (fun i=>(i.zero,i.size,i.bytes))=some (some z,sz,bytes))(F:z.cells.size=sz)(G:0<sz)(H:bytes<=1000){T:List TypeId}{C:World->List Value->α->Prop}(hC:fO T C)(hT:e∉T)(m:∀w cs x,C w cs x->cs.length=sz/\∀u∈cs,u.oneCell'=true)(p:o.guard=none)(s x:Operand)(X:o.op=.call {callee:=.builtin .append,args:=#[s,x],argTypes:=#[t,t]})(B B2:Nat)(v r:Value)(xs ys:List α)(f:ay e sz C B w v xs)(d:aT e sz C B2 w r ys)(Y:a.eval s=v)(Z:a.eval x=r)(hn:xs.length+ys.length<=1000000000)(hB:B<=w.heap.size)(h:∀D w',ay e sz C B w' D (xs++ys)->w.grownBy w' v.ownBlock->wpList P ops Q rest (a.put o.dst D) w'):wpList P ops Q (o::rest) a w:=by
 obtain⟨i0,hi,I,J,L⟩:=fD nC;obtain⟨A,c,rfl,hlc,-⟩:=d.form;cases A with
 |none=>obtain⟨A',c',hv,hl,hc,M,-⟩:=d;injection hv with e1 e2 e3;subst e1 e3;obtain rfl:=M rfl;obtain rfl:ys=[]:=Bv (by omega);obtain⟨flat,k,N⟩:=f;refine Bw p s x t X B e i0 sz V hi v xs.length flat Y k Z ?_;exact h v w (by rw[iU];exact⟨flat,k,N⟩) (sV _ _)
 |some ad=>obtain⟨flat,k,N⟩:=f;obtain⟨O,R,h5,hy,S,j,h1⟩:=qN m d;refine wpList_append_own_at w p s x t X B e i0 z sz bytes V hi I J L F G v xs.length flat Y k ad ys.length c O.flatten Z S j h1 (by unfold maxLen;omega) (aG (yC hn H) (by omega)) hB ?_;intro D w' h3 h4 _ _;refine h D w' (ay.plus N k.1 hC (kF h4 (fun g hg=>?_)) R h5 hy h3) h4;obtain⟨U,hh⟩:=jw k g hg;exact⟨U,e,hh,hT⟩
theorem om{t f sz bytes:Nat}{z:Value}(X:P.underlying t=some (.slice f))(nC:(P.info? f).map (fun i=>(i.zero,i.size,i.bytes))=some (some z,sz,bytes))(G:z.cells.size=sz)(H:0<sz)(I:bytes<=1000){T:List TypeId}{C:World->List Value->α->Prop}(hC:fO T C)(hT:f∉T)(k:∀w cs x,C w cs x->cs.length=sz/\∀u∈cs,u.oneCell'=true)(J:o.guard=none)(s x:Operand)(Y:o.op=.call {callee:=.builtin .append,args:=#[s,x],argTypes:=#[t,t]})(B B2:Nat)(v m:Value)(xs ys:List α)(p:ay f sz C B w v xs)(d:aT f sz C B2 w m ys)(Z:a.eval s=v)(hx:a.eval x=m)(hn:xs.length+ys.length<=1000000000)(hB:B<=w.heap.size)(h:∀F w',ay f sz C B w' F (xs++ys)->w.grownBy w' v.ownBlock->K (a.put o.dst F) w'):if Region.wanted o (yielded ops a.tmps)=true then Oper.wp P o a w K Q else E:=by
 have hw:Region.wanted o (yielded ops a.tmps)=true:=by simp[Region.wanted,J]
 rw[av hw];obtain⟨i0,hi,L,M,N⟩:=fD nC;obtain⟨A,c,rfl,hlc,-⟩:=d.form;obtain⟨flat,r,h2⟩:=p;cases A with
 |none=>obtain⟨A',c',hv,hl,hc,O,-⟩:=d;injection hv with e1 e2 e3;subst e1 e3;obtain rfl:=O rfl;obtain rfl:ys=[]:=Bv (by omega);have e:=run_append_owned_none (P:=P) (w:=w) B t o.type f i0 sz X hi v xs.length flat r;have D:=h v w (by rw[iU];exact⟨flat,r,h2⟩) (sV _ _);unfold Oper.wp execOp;simp only[Y,resolve,invoke,builtin,Sem.run_bind,Sem.run_pure,Result.andThen_ok,List.map_toArray,lM,mM,Z,hx,aN,e];exact D
 |some ad=>obtain⟨R,S,h5,hy,U,j,h1⟩:=qN k d;obtain⟨F,w',e,h3,h4,-⟩:=run_append_own_at (P:=P) w B t o.type f i0 z sz bytes X hi L M N G H v xs.length flat r ad ys.length c R.flatten U j h1 (by unfold maxLen;omega) (aG (yC hn I) (by omega)) hB;have D:=h F w' (ay.plus h2 r.1 hC (kF h4 (fun g hg=>by obtain⟨V,D⟩:=jw r g hg;exact⟨V,f,D,hT⟩)) S h5 hy h3) h4;unfold Oper.wp execOp;simp only[Y,resolve,invoke,builtin,Sem.run_bind,Sem.run_pure,Result.andThen_ok,List.map_toArray,lM,mM,Z,hx,e];exact D
end
abbrev SlJ(B:Nat)(w:World)(v:Value)(l:List PG.aD):Prop:=aT 104 5 (JV B) B w v l
abbrev uo(B base:Nat)(w:World)(v:Value)(l:List PG.aD):Prop:=ay 104 5 (JV B) base w v l
theorem QO(B:Nat):fO [21] (JV B):=fun _ _ _ _ a⟨d,e,f⟩=>⟨d,e,bH f (dQ []) (fun _ _ _ h=>by cases h) a⟩
abbrev iw:=@QO
theorem mi{B:Nat}:∀(w:World)(cs:List Value)(x:PG.aD),JV B w cs x->cs.length=5/\∀u∈cs,u.oneCell'=true:=by rintro w cs x⟨a,rfl,h⟩;obtain⟨A,c,rfl,-⟩:=h.form;exact⟨rfl,by simp[Value.oneCell']⟩
theorem uo.ext{B base:Nat}{w w':World}{v:Value}{l:List PG.aD}(h:uo B base w v l)(a:Ext w w'):uo B base w' v l:=h.gM (iw B) (au a) (au a)
theorem uo.slj{B base:Nat}{w:World}{v:Value}{l:List PG.aD}(h:uo B base w v l)(a:B<=base):SlJ B w v l:=h.sl.weaken a
theorem uo.lit{B:Nat}{w:World}{i:PG.aD}{d:Value}(e:aT 21 1 Cc B w d i.set):uo B w.heap.size (w.alloc (.cells #[.int .i64 i.op,.int .i64 i.x,.int .i64 i.y,.bool i.neg,d] 104)) (.slice (some ⟨w.heap.size,0,none⟩) 1 1) [i]:=by
 refine jP _ [i] w.heap.size 1 rfl rfl (az _) (by simp) (by simp) ?_;intro k y a;match k,a with
 |0,a=>simp at a;subst a;exact⟨_,⟨d,rfl,bH e (dQ []) (fun _ _ _ h=>by cases h) (au ((aa w).alloc _))⟩,rfl,fun j u f=>by simpa using f⟩
namespace PG
open RX(aA)
def Sits(L:List aA)(i:Nat)(e:Int)(t:List aA):Prop:=∃rest,L.drop i=t++rest/\RX.Shut e rest
theorem Sits.le{L:List aA}{i:Nat}{e:Int}{t:List aA}(h:Sits L i e t)(a:0<t.length):i+t.length<=L.length:=by obtain⟨rest,h,-⟩:=h;have:=congrArg List.length h;rw[jU,ai]at this;omega
theorem Sits.at_{L:List aA}{i:Nat}{e:Int}{t:List aA}(h:Sits L i e t){j:Nat}(a:j<t.length):L[i+j]?=some t[j]:=by obtain⟨rest,h,-⟩:=h;rw[<-List.getElem?_drop,h,lK a,aU a]
theorem Sits.behind{L:List aA}{i:Nat}{e:Int}{t:List aA}(h:Sits L i e t){y:aA}(a:L[i+t.length]?=some y):y.deep<=e:=by
 obtain⟨rest,h,d⟩:=h;rw[<-List.getElem?_drop,h,nN (az _),Nat.sub_self]at a;cases rest with
 |nil=>simp at a
 |cons z r=>simp at a;subst a;exact d
theorem Sits.deep{L:List aA}{i:Nat}{e:Int}{t:List aA}(d:Tree e t)(h:Sits L i e t):∃x,L[i]?=some x/\x.deep=e/\∀j y,0<j->j<t.length->L[i+j]?=some y->e<y.deep:=by obtain⟨x,r,rfl,f,k⟩:=d.top;refine⟨x,by have:=h.at_ (j:=0) (by simp);simpa using this,f,fun j y s p a=>?_⟩;rw[h.at_ p]at a;obtain rfl:=xg a;refine k _ ?_;obtain⟨j,rfl⟩:∃m,j=m+1:=⟨j-1,by omega⟩;simp
def nA(i:Nat)(ks:List (List aA))(j:Nat):Nat:=i+1+(ks.take j).flatten.length
theorem oh(i:Nat)(a:List (List aA)):nA i a 0=i+1:=by simp[nA]
theorem zP{i:Nat}{a:List (List aA)}{j:Nat}(d:j<a.length):nA i a (j+1)=nA i a j+a[j].length:=by unfold nA;rw[kE d,qK,ai];simp;omega
theorem Dv(i:Nat)(x:aA)(a:List (List aA)):nA i a a.length=i+(x::a.flatten).length:=by unfold nA;rw[xh,aF];omega
theorem Ik{i:Nat}{x:aA}{a:List (List aA)}{j:Nat}(d:j<a.length)(e:∀k∈a,0<k.length):nA i a j<i+(x::a.flatten).length:=by
 have h:a.flatten=(a.take j).flatten++(a[j]++(a.drop (j+1)).flatten):=by
  conv=>lhs;rw[<-List.take_append_drop j a]
  rw[qK,ed d,xk]
 have:=e _ (bK d);unfold nA;rw[aF,h,ai,ai];omega
theorem Sits.kid{L:List aA}{i:Nat}{e:Int}{x:aA}{a:List (List aA)}(h:Sits L i e (x::a.flatten))(d:∀k∈a,Tree (e+1) k){j:Nat}(f:j<a.length):Sits L (nA i a j) (e+1) a[j]:=by
 obtain⟨rest,h,p⟩:=h;have s:a.flatten=(a.take j).flatten++(a[j]++(a.drop (j+1)).flatten):=by
  conv=>lhs;rw[<-List.take_append_drop j a]
  rw[qK,ed f,xk]
 refine⟨(a.drop (j+1)).flatten++rest,?_,?_⟩
 .have t:L.drop (i+(1+(a.take j).flatten.length))=a[j]++((a.drop (j+1)).flatten++rest):=by rw[<-List.drop_drop,h,s];rw[show 1+(a.take j).flatten.length=(a.take j).flatten.length+1 by omega,List.cons_append,List.drop_succ_cons,lL,List.drop_left,lL]
  rw[<-t];congr 1;unfold nA;omega
 .rcases u:a.drop (j+1)with _|⟨m,w⟩
  .exact p.mono (by omega)
  .have v:m∈a:=List.mem_of_mem_drop (by rw[u];simp);obtain⟨y,r,rfl,z,-⟩:=(d m v).top;show y.deep<=e+1;omega
end PG
theorem qM{B:Nat}{e:Int}{t:List RX.aA}(M:PG.Tree e t)(L:List RX.aA)(v:Value)(w:World)(i:Nat)(F:dI B B w v L)(hl:L.length<=100000000)(G:PG.Sits L i e t):Calls Tryz.prog 92 #[v,.int .i64 i] w (lW (.int .i64 ((i+t.length:Nat):Int)) w):=by
 have u:=M.pos;have P:=G.le u;obtain⟨x,D,Q,f⟩:=G.deep M;have z:∀y,L[i+t.length]?=some y->y.deep<=e:=fun y R=>G.behind R;have S:=jd f;have T:=jd z;obtain⟨A,c,rfl,U,V⟩:=F.form;have H:=jd F;obtain⟨I,D⟩:=dh.1 D;obtain⟨J,o1,N,rfl,d,a⟩:=H.o.at_ I;obtain⟨A1,c1,rfl⟩:=d.cells;have X:w.cell? ⟨J,o1+i*7+1,none⟩=_:=a 1 _ rfl;rw[D,Q]at X;clear d a F f z D;generalize t.length=n at*;have b2:(i:Int)<(L.length:Int):=by omega
 have b4:(0:Int)<=(i:Int):=by omega
 go_enter Tryz.func92,Tryz.ntmps92;go_upto_region 2 with fail;go_loopw[5](fun x Y=>∃(k m:Nat),i<k/\k<=i+n/\x=.int .i64 (k:Int)/\Y=w.drewN m)(fun x _=>L.length-(intOf x).toNat);case atStart=>exact⟨i+1,0,by omega,by omega,by go_num,rfl⟩
 case round=>
  obtain⟨k,m,Z,hkl,rfl,rfl⟩:=hrel;by_cases hkn:k<i+n
  .obtain⟨g2,o2,N,h,d,a⟩:=H.o.at_ (k:=k) (by omega);injection h with h;injection h with j p;subst j p;obtain⟨A2,c2,rfl⟩:=d.cells;have K:w.cell? ⟨J,o1+k*7+1,none⟩=_:=a 1 _ rfl;have r:=S.o (k-i) (L[k]'(by omega)) (by omega) (by omega) (by rw[show i+(k-i)=k by omega];exact aU _);obtain⟨E,C⟩:∃E,(L[k]'(by omega)).deep=E:=⟨_,rfl⟩;rw[C]at K r;clear d a C;have O:decide ((k:Int)<(L.length:Int))=true:=by simp;omega
   have b1:(k:Int)<(L.length:Int):=by omega
   have b3:(0:Int)<=(k:Int):=by omega
   have e3:decide (e<E)=true:=by simp;omega
   go_upto_region 2 with fail;go_quiet(fail);go_wp2_with fail;go_roundw;case rel=>exact⟨k+1,_,by omega,by omega,by go_num,rfl⟩
   case measure=>simp[intOf];omega
  .obtain rfl:k=i+n:=by omega
   by_cases s:i+n<L.length;focus
    obtain⟨g2,o2,N,h,d,a⟩:=H.o.at_ s;injection h with h;injection h with j p;subst j p;obtain⟨A2,c2,rfl⟩:=d.cells;have K:w.cell? ⟨J,o1+(i+n)*7+1,none⟩=_:=a 1 _ rfl;have r:=T.o _ (aU s);obtain⟨E,C⟩:∃E,(L[i+n]'s).deep=E:=⟨_,rfl⟩;rw[C]at K r;clear d a C;have e3:decide (e<E)=false:=by simp;omega
    generalize i+n=k at*;have O:decide ((k:Int)<(L.length:Int))=true:=by simp;omega
    have b1:(k:Int)<(L.length:Int):=by omega
    have b3:(0:Int)<=(k:Int):=by omega
   rotate_left;focus
    generalize i+n=k at*;have O:decide ((k:Int)<(L.length:Int))=false:=by simp;omega
   rotate_left;all_goals
    go_upto_region 2 with fail;go_quiet(fail);go_wp2_with fail;go_ret;exact⟨rfl,_,by first|rfl|rw[World.drewN_drewN]⟩
section
variable{α:Type}{P:Program}{w:World}{ops:Array Oper}{rest:List Oper}{o:Oper}{a:Act}{Q:Exit->Act->World->Prop}
theorem fQ{t d sz bytes:Nat}{z:Value}(I:P.underlying t=some (.slice d))(J:(P.info? d).map (fun i=>(i.zero,i.size,i.bytes))=some (some z,sz,bytes))(j:z.cells.size=sz)(k:0<sz){T:List TypeId}{C:World->List Value->α->Prop}(K:fO T C)(L:d∉T)(m:o.guard=none)(s x:Operand)(M:o.op=.call {callee:=.builtin .append,args:=#[s,x],argTypes:=#[t,t]})(B:Nat)(v:Value)(xs:List α)(y:α)(cs:List Value)(tb:TypeId)(e:ay d sz C B w v xs)(N:C w cs y)(p:cs.length=sz)(O:∀u∈cs,u.oneCell'=true)(R:a.eval s=v)(nb:Nat)(S:a.eval x=.slice (some ⟨nb,0,none⟩) 1 1)(r:nb=w.heap.size)(U:(xs.length+1)*bytes<=140737488355328)(V:xs.length<=4611686018427387904)(hB:B<=w.heap.size)(h:∀f w',ay d sz C B w' f (xs++[y])->(w.alloc (.cells cs.toArray tb)).grownBy w' v.ownBlock->wpList P ops Q rest (a.put o.dst f) w'):wpList P ops Q (o::rest) a (w.alloc (.cells cs.toArray tb)):=by subst r;obtain⟨X,hi,A,D,E⟩:=fD J;obtain⟨flat,F,Y⟩:=e;refine wpList_append_own _ m s x t M B d X z sz bytes I hi A D E j k v xs.length flat R (World.ownsRow.alloc F _) ⟨w.heap.size,0,none⟩ 1 1 cs S (by omega) (jB _ _ _) O (by unfold maxLen;omega) U (by simp;omega) ?_;intro f w' Z H _;refine h f w' (ay.snoc Y F.1 K ?_ N p Z) H;refine(au ((aa w).alloc _)).trans (kF H (fun g hg=>?_));obtain⟨G,hh⟩:=jw F g hg;exact⟨G,d,((aa w).alloc _).heap hh,L⟩
theorem kI{t e sz bytes:Nat}{z:Value}(R:P.underlying t=some (.slice e))(Z:(P.info? e).map (fun i=>(i.zero,i.size,i.bytes))=some (some z,sz,bytes))(E:z.cells.size=sz)(F:0<sz){T:List TypeId}{C:World->List Value->α->Prop}(hC:fO T C)(hT:e∉T)(m:∀w cs x,C w cs x->cs.length=sz/\∀u∈cs,u.oneCell'=true)(p:o.guard=none)(s x:Operand)(S:o.op=.call {callee:=.builtin .append,args:=#[s,x],argTypes:=#[t,t]})(B B2:Nat)(v r:Value)(xs ys:List α)(f:ay e sz C B w v xs)(d:aT e sz C B2 w r ys)(U:a.eval s=v)(V:a.eval x=r)(hn:(xs.length+ys.length)*bytes<=140737488355328)(hnl:xs.length+ys.length<=4611686018427387904)(hB:B<=w.heap.size)(h:∀D w',ay e sz C B w' D (xs++ys)->w.grownBy w' v.ownBlock->wpList P ops Q rest (a.put o.dst D) w'):wpList P ops Q (o::rest) a w:=by
 obtain⟨X,hi,G,H,I⟩:=fD Z;obtain⟨A,c,rfl,hlc,-⟩:=d.form;cases A with
 |none=>obtain⟨A',c',hv,hl,hc,J,-⟩:=d;injection hv with e1 e2 e3;subst e1 e3;obtain rfl:=J rfl;obtain rfl:ys=[]:=Bv (by omega);obtain⟨flat,k,K⟩:=f;refine Bw p s x t S B e X sz R hi v xs.length flat U k V ?_;exact h v w (by rw[iU];exact⟨flat,k,K⟩) (sV _ _)
 |some ad=>obtain⟨flat,k,K⟩:=f;obtain⟨L,M,h5,hy,N,j,h1⟩:=qN m d;refine wpList_append_own_at w p s x t S B e X z sz bytes R hi G H I E F v xs.length flat U k ad ys.length c L.flatten V N j h1 (by unfold maxLen;omega) hn hB ?_;intro D w' h3 Y _ _;refine h D w' (ay.plus K k.1 hC (kF Y (fun g hg=>?_)) M h5 hy h3) Y;obtain⟨O,hh⟩:=jw k g hg;exact⟨O,e,hh,hT⟩
end
def JR(B:Nat)(l:List PG.aD)(w:World)(e:Ending)(w':World):Prop:=Ext w w'/\∃A c,e=.returned (.slice A l.length c)/\aT 104 5 (JV B) w.heap.size w' (.slice A l.length c) l
theorem ky{B:Nat}(l:List PG.aD)(v:Value)(w:World)(k:Int){base:Nat}(J:aT 104 5 (JV B) base w v l)(X:0<=k)(hk:k<=1100000000000)(hm:l.length<=1100000000000)(R:PG.Tb 1100000000000 l):Calls Tryz.prog 71 #[v,.int .i64 k] w (JR B (l.map (PG.moved k)) w):=by
 obtain⟨A,c,rfl,Y,Z⟩:=J.form;have HL:=jd J;have HT:=jd R;have K:=jd (show(l.map (PG.moved k)).length=l.length from fP _);clear J R;go_enter Tryz.func71,Tryz.ntmps71;go_upto_region 3 with fail;go_loopw[5,6](fun v5 x wr=>∃j:Nat,j<=l.length/\x=.int .i64 j/\Ext w wr/\uo B w.heap.size wr v5 ((l.take j).map (PG.moved k)))(fun _ x _=>l.length-(intOf x).toNat);case atStart=>exact⟨0,aL _,rfl,aa _,dO⟩
 case round=>
  obtain⟨j,hj,rfl,L,S⟩:=hrel;have e:=jd L;have r:=jd S;have hws:=L.size;obtain⟨s,p⟩:∃s,(l.take j).map (PG.moved k)=s:=⟨_,rfl⟩;rw[p]at r;have hxl:s.length<=1100000000000:=by rw[<-p,fP,kg];omega
  obtain⟨A5,c5,rfl,-⟩:=r.o.form;clear L S;by_cases C:j<l.length
  .obtain⟨g,o,I,rfl,M,a⟩:=HL.o.at_ C;obtain⟨vs,rfl,t⟩:=M;have d:=HT.o _ (bK C);have D:=jd (show(l.take (j+1)).map (PG.moved k)=s++[PG.moved k l[j]]by rw[kE C,jS,<-p];rfl);obtain⟨i,hi⟩:∃i,l[j]=i:=⟨_,rfl⟩;rw[hi]at a t d D;obtain⟨op,f,m,neg,set⟩:=i;obtain⟨N,I,rfl,-⟩:=t.form;have O:=jd t;have e0:wr.cell? ⟨g,o+j*5,none⟩=_:=e.o.cell (a 0 _ rfl);have e1:=e.o.cell (a 1 _ rfl);have e2:=e.o.cell (a 2 _ rfl);have e3:=e.o.cell (a 3 _ rfl);have e4:=e.o.cell (a 4 _ rfl);dsimp only at d e0 e1 e2 e3 e4;have b1:(j:Int)<(l.length:Int):=by omega
   have b3:(0:Int)<=(j:Int):=by omega
   clear a t hi p;by_cases P:op=4
   .subst P;obtain⟨a1,a2,a3,a4⟩:=d.1 rfl;have E:=jd (show PG.moved k ⟨4,f,m,neg,set⟩=⟨4,f+k,m+k,neg,set⟩from rfl);rw[E.o]at D;clear d;go_wp2_with(at_builtin;refine fQ j5 j6 rfl (by decide) (iw B) (by simp) rfl _ _ rfl w.heap.size _ s ⟨4,f+k,m+k,neg,set⟩ [.int .i64 4,.int .i64 (f+k),.int .i64 (m+k),.bool neg,.slice N set.length I] 104 (r.o.ext ((aa wr).alloc _)) ⟨_,rfl,bH O.o (dQ []) (fun _ _ _ h=>by cases h) (au (e.o.alloc _))⟩ rfl (by simp[Value.oneCell']) rfl _ rfl (by simp) (by omega) (by omega) (by simp;omega) ?_;intro T U u z;have F:=jd (((e.o.alloc _).alloc _).grown z (fun b G=>(r.o.lt b G).1));have H:=jd u;clear u z);go_roundw;case rel=>exact⟨j+1,by omega,by go_num,F.o,by rw[D.o];exact H.o⟩
    case measure=>simp[intOf];omega
   by_cases Q:op=5
   .subst Q;obtain⟨a1,a2⟩:=d.2 rfl;have E:=jd (show PG.moved k ⟨5,f,m,neg,set⟩=⟨5,f+k,m,neg,set⟩from rfl);rw[E.o]at D;clear d;go_wp2_with(at_builtin;refine fQ j5 j6 rfl (by decide) (iw B) (by simp) rfl _ _ rfl w.heap.size _ s ⟨5,f+k,m,neg,set⟩ [.int .i64 5,.int .i64 (f+k),.int .i64 (m),.bool neg,.slice N set.length I] 104 (r.o.ext ((aa wr).alloc _)) ⟨_,rfl,bH O.o (dQ []) (fun _ _ _ h=>by cases h) (au (e.o.alloc _))⟩ rfl (by simp[Value.oneCell']) rfl _ rfl (by simp) (by omega) (by omega) (by simp;omega) ?_;intro T U u z;have F:=jd (((e.o.alloc _).alloc _).grown z (fun b G=>(r.o.lt b G).1));have H:=jd u;clear u z);go_roundw;case rel=>exact⟨j+1,by omega,by go_num,F.o,by rw[D.o];exact H.o⟩
    case measure=>simp[intOf];omega
   have E:=jd (show PG.moved k ⟨op,f,m,neg,set⟩=⟨op,f,m,neg,set⟩by unfold PG.moved;rw[ae P,ae Q]);rw[E.o]at D;have q4:(op==4)=false:=by simpa using P
   have q5:(op==5)=false:=by simpa using Q
   clear d;go_wp2_with(at_builtin;refine fQ j5 j6 rfl (by decide) (iw B) (by simp) rfl _ _ rfl w.heap.size _ s ⟨op,f,m,neg,set⟩ [.int .i64 op,.int .i64 (f),.int .i64 (m),.bool neg,.slice N set.length I] 104 (r.o.ext ((aa wr).alloc _)) ⟨_,rfl,bH O.o (dQ []) (fun _ _ _ h=>by cases h) (au (e.o.alloc _))⟩ rfl (by simp[Value.oneCell']) rfl _ rfl (by simp) (by omega) (by omega) (by simp;omega) ?_;intro T U u z;have F:=jd (((e.o.alloc _).alloc _).grown z (fun b G=>(r.o.lt b G).1));have H:=jd u;clear u z);go_roundw;case rel=>exact⟨j+1,by omega,by go_num,F.o,by rw[D.o];exact H.o⟩
   case measure=>simp[intOf];omega
  .obtain rfl:j=l.length:=by omega
   have V:=jd (show s=l.map (PG.moved k)by rw[<-p,xh]);have HXL:=jd (show s.length=l.length by rw[V.o];exact K.o);go_wp2_with fail;go_ret;rw[<-V.o];exact⟨e.o,A5,c5,rfl,r.o.sl⟩
structure Ly(B:Nat)(w wr:World)(v:Value)(out:List PG.aD):Prop where
 ext:Ext w wr
 own:uo B w.heap.size wr v out
section
variable{B:Nat}{w wr w':World}{v v':Value}{out out':List PG.aD}
theorem Ly.eU:Ly B w w (.slice none 0 0) []:=⟨aa _,dO⟩
theorem Ly.aj(h:Ly B w wr v out)(a:Ext wr w'):Ly B w w' v out:=⟨h.ext.trans a,h.own.ext a⟩
abbrev bV:=@Ly.aj
theorem Ly.app(h:Ly B w wr v out)(a:uo B w.heap.size w' v' out')(d:wr.grownBy w' v.ownBlock):Ly B w w' v' out':=⟨h.ext.grown d (fun b e=>(h.own.lt b e).1),a⟩
theorem Ly.size(h:Ly B w wr v out):w.heap.size<=wr.heap.size:=h.ext.size
theorem Ly.ret{A:Option Addr}{c:Nat}(h:Ly B w wr (.slice A out.length c) out):JR B out w (.returned (.slice A out.length c)) wr:=⟨h.ext,A,c,rfl,h.own.sl⟩
theorem Ly.keep(h:Ly B w wr v out)(j:wr.grownBy w' v.ownBlock){base:Nat}{u:Value}{l:List PG.aD}(m:aT 104 5 (JV B) base wr u l)(p:∀k,v.ownBlock=some k->k<base):aT 104 5 (JV B) base w' u l:=by have r:aV [21] wr w':=kF j (fun g f=>by obtain⟨a,d⟩:=h.own.type g f;exact⟨a,_,d,by decide⟩);obtain⟨A,c,s,t,z,C,D⟩:=m;refine⟨A,c,s,t,z,C,fun E i=>?_⟩;obtain⟨g,o,a,rfl,f,d,F,G⟩:=D E i;refine⟨g,o,a,rfl,f,(j.block g (ag d) (by intro e;have:=p g e.symm;omega)).trans d,F,fun k x H=>?_⟩;obtain⟨I,J,K⟩:=G k x H;exact⟨I,iw B _ _ _ _ r J,K⟩
end
theorem JR.weaken{B:Nat}{l:List PG.aD}{w a:World}{e:Ending}{w':World}(d:Ext w a)(h:JR B l a e w'):JR B l w e w':=by obtain⟨f,A,c,i,j⟩:=h;exact⟨d.trans f,A,c,i,j.weaken d.size⟩
theorem DL(kind deep lo hi:Int)(lazy neg:Bool)(sv:Value)(a off:Int)(w:World):Calls Tryz.prog 108 #[.agg #[.int .i64 kind,.int .i64 deep,.int .i64 lo,.int .i64 hi,.bool lazy,.bool neg,sv],.int .i64 a,.int .i64 off] w (qL (.agg #[.int .i64 (PG.sp2 lazy a off).op,.int .i64 (PG.sp2 lazy a off).x,.int .i64 (PG.sp2 lazy a off).y,.bool (PG.sp2 lazy a off).neg,.slice none 0 0]) w):=by
 cases lazy
 .have d:=jd (show PG.sp2 false a off=⟨4,a,off,false,[]⟩from rfl);rw[d.o];go_enter Tryz.func108,Tryz.ntmps108;go_wp2_with fail;refine bC (v:=.agg #[.int .i64 4,.int .i64 a,.int .i64 off,.bool false,.slice none 0 0]) (by simp[results,Tryz.results108,go_sem]) rfl ?_;exact⟨rfl,by(focus(repeat(first|with_reducible exact aa _|with_reducible apply af|with_reducible apply Ext.MQ|(with_reducible refine Ext.IC ?_ ?_;(simp;done)))))⟩
 .have d:=jd (show PG.sp2 true a off=⟨4,off,a,false,[]⟩from rfl);rw[d.o];go_enter Tryz.func108,Tryz.ntmps108;go_wp2_with fail;refine bC (v:=.agg #[.int .i64 4,.int .i64 off,.int .i64 a,.bool false,.slice none 0 0]) (by simp[results,Tryz.results108,go_sem]) rfl ?_;exact⟨rfl,by(focus(repeat(first|with_reducible exact aa _|with_reducible apply af|with_reducible apply Ext.MQ|(with_reducible refine Ext.IC ?_ ?_;(simp;done)))))⟩
theorem PH(lz:Bool)(a b:Int):(PG.sp2 lz a b).set=[]:=by cases lz<;>rfl
theorem TY{B base:Nat}(kind deep lo hi:Int)(lazy neg:Bool)(sv:Value)(c:List PG.aD)(v:Value)(w:World)(hc:aT 104 5 (JV B) base w v c)(hlo0:0<=lo)(TG:lo<=9)(ZN:hi<=9)(hr:hi<0\/lo<=hi)(hcl:c.length<=1099511627776)(hL:lo.toNat*c.length+(if hi<0 then c.length+2 else(hi-lo).toNat*(c.length+1))<=1099511627776)(htb:PG.Tb 1100000000000 c):Calls Tryz.prog 94 #[.agg #[.int .i64 kind,.int .i64 deep,.int .i64 lo,.int .i64 hi,.bool lazy,.bool neg,sv],v] w (JR B (PG.MF lo hi lazy c) w):=by
 obtain⟨A,cp,rfl,-⟩:=hc.form;obtain⟨a,rfl⟩:∃a:Nat,lo=a:=⟨lo.toNat,by omega⟩;have ha9:a<=9:=by omega
 obtain⟨H,V⟩:∃H,PG.L8 c a []=H:=⟨_,rfl⟩;have ZV:=jd (show PG.MF a hi lazy c=if hi<0 then H++[PG.sp2 lazy (H.length+1) (H.length+c.length+2)]++c.map (PG.moved (H.length+1:Nat))++[⟨5,H.length,0,false,[]⟩]else PG.Iq lazy (H.length+(hi-a)*(c.length+1)) c (hi-a).toNat H by unfold PG.MF;rw[ko,V]);have TU:=jd V;obtain⟨R,hR⟩:∃R,PG.MF a hi lazy c=R:=⟨_,rfl⟩;rw[hR]at ZV⊢;have lY:=jd htb;rw[ko]at hL;have HLa:=jd (show a*c.length<=1099511627776 by omega);have HLn:=jd (fun(h:hi<0)=>show a*c.length+(c.length+2)<=1099511627776 by rw[av h]at hL;exact hL);have HLp:=jd (fun(h:¬hi<0)=>show a*c.length+(hi-a).toNat*(c.length+1)<=1099511627776 by rw[ae h]at hL;exact hL);clear hL;obtain⟨nb,hnb⟩:∃nb,w.heap.size=nb:=⟨_,rfl⟩;have HC:=jd (bH hc (iw B) (au ((aa w).alloc (.cells #[.int .i64 kind,.int .i64 deep,.int .i64 (a:Nat),.int .i64 hi,.bool lazy,.bool neg,sv] 126))) (au ((aa w).alloc (.cells #[.int .i64 kind,.int .i64 deep,.int .i64 (a:Nat),.int .i64 hi,.bool lazy,.bool neg,sv] 126))));have HB:=jd (aB w (.cells #[.int .i64 kind,.int .i64 deep,.int .i64 (a:Nat),.int .i64 hi,.bool lazy,.bool neg,sv] 126));have X:=jd (show Ext w (w.alloc (.cells #[.int .i64 kind,.int .i64 deep,.int .i64 (a:Nat),.int .i64 hi,.bool lazy,.bool neg,sv] 126))from(aa w).alloc _);have T9:=jd (fun Y(k:Int)(h0:0<=k)(j:k<=1100000000000)(h:aT 104 5 (JV B) base Y (.slice A c.length cp) c)=>ky c _ Y k h h0 j (by omega) lY.o);rw[hnb]at HB;clear hc htb V hR;go_enter Tryz.func94,Tryz.ntmps94;go_upto_region 3 with fail;generalize w.alloc (.cells #[.int .i64 kind,.int .i64 deep,.int .i64 (a:Nat),.int .i64 hi,.bool lazy,.bool neg,sv] 126)=S at HC HB X⊢;clear hnb;go_loopw[5,6](fun v5 x wr=>∃(k:Nat)(f:List PG.aD),k<=a/\x=.int .i64 (k:Nat)/\f.length=k*c.length/\PG.L8 c (a-k) f=H/\Ly B S wr v5 f)(fun _ x _=>a-(intOf x).toNat);case atStart=>exact⟨0,[],aL _,rfl,by simp,TU.o,Ly.eU⟩
 case round=>
  obtain⟨k,f,hk,rfl,F,DI,I⟩:=hrel;have T:=jd I;have Iy:=jd DI;obtain⟨A5,c5,rfl,-⟩:=I.own.form;have Cs:f.length<=1099511627776:=by rw[F];exact aG (tC _ hk) HLa.o
  have Gy:=jd F;clear F;obtain⟨c0,c1,c2,c3,c4,c5',c6⟩:=cc7 (I.ext.heap HB.o);have kJ:=jd (bH HC.o (iw B) (au I.ext) (au I.ext));clear I DI;by_cases Z:k<a
  .obtain⟨s,p⟩:∃s,c.map (PG.moved (f.length:Int))=s:=⟨_,rfl⟩;have zX:=jd (show s.length=c.length by rw[<-p,fP]);have D:f.length+s.length<=1099511627776:=by rw[Gy.o,zX.o,<-Nat.succ_mul];exact aG (tC _ Z) HLa.o
   have HS:=jd (T9.o wr f.length (by omega) (by omega) kJ.o);have Cu:=jd (show PG.L8 c (a-(k+1)) (f++s)=H by rw[<-Iy.o,show a-k=(a-(k+1))+1 by omega,PG.L8,p]);rw[p]at HS;clear p;go_wp2_with(first|(go_at_call 71;refine(HS.o).mono ?_;rintro e w2⟨z,A2,c2,rfl,hs2⟩;have HS2:=jd hs2;have jZ:=jd z;clear hs2 z)|(at_builtin;refine kI j5 j6 rfl (by decide) (iw B) (by decide) mi rfl _ _ rfl S.heap.size _ _ _ f s (bV T.o jZ.o).own HS2.o rfl rfl (by omega) (by omega) (bV T.o jZ.o).size ?_;intro v3 w3 j t;obtain⟨C,r⟩:∃J,f++s=J:=⟨_,rfl⟩;rw[r]at j;obtain⟨A3,c3,rfl,-⟩:=j.form;have G:=jd (Ly.app (bV T.o jZ.o) j t);have hl3:C.length<=f.length+s.length:=(by rw[<-r];simp);have U:=jd r;clear j t r));go_roundw;case rel=>exact⟨k+1,C,by omega,by go_num,by rw[<-U.o,ai,Gy.o,zX.o,<-Nat.succ_mul],by rw[<-U.o];exact Cu.o,G.o⟩
   case measure=>simp[intOf];omega
  .obtain rfl:k=a:=by omega
   have adr:=jd (show f=H by rw[<-Iy.o,Nat.sub_self];rfl);have P:=ZV.o;rw[<-adr.o]at P;by_cases K:hi<0
   .rw[av K]at P;obtain⟨i,u⟩:∃i,PG.sp2 lazy ((f.length:Int)+1) (f.length+c.length+2)=i:=⟨_,rfl⟩;rw[u]at P;have HIS:=jd (show i.set=[]by rw[<-u];exact PH _ _ _);have Cv:=jd (fun W=>DL kind deep k hi lazy neg sv ((f.length:Int)+1) (f.length+c.length+2) W);rw[u]at Cv;obtain⟨s,p⟩:∃s,c.map (PG.moved (f.length+1:Nat))=s:=⟨_,rfl⟩;have D:f.length+c.length+2<=1099511627776:=by rw[Gy.o];exact HLn.o K
    have uu:f.length+s.length+2<=1099511627776:=by rw[<-p,fP];exact D
    rw[p]at P;have ZX:=jd P;have FQ:=jd (fun Y(h:aT 104 5 (JV B) base Y (.slice A c.length cp) c)=>(show Calls Tryz.prog 71 #[.slice A c.length cp,.int .i64 ((f.length:Int)+1)] Y (JR B s Y)from by have:=T9.o Y ((f.length:Int)+1) (by omega) (by omega) h;rw[<-p];exact this));clear u p P;go_upto_region 9 with(first|(go_at_call 108;refine(Cv.o _).mono ?_;rintro e w2⟨rfl,z⟩;have ZY:=jd (bV T.o z);clear z)|(at_builtin;refine fQ j5 j6 rfl (by decide) (iw B) (by simp) rfl _ _ rfl S.heap.size _ f i [.int .i64 i.op,.int .i64 i.x,.int .i64 i.y,.bool i.neg,.slice none 0 0] 104 ZY.o.own ⟨_,rfl,(by rw[HIS.o];exact aS)⟩ rfl (by simp[Value.oneCell']) rfl _ rfl (by simp) (by omega) (by omega) ZY.o.size ?_;intro v3 w3 j t;obtain⟨C,r⟩:∃J,f++[i]=J:=⟨_,rfl⟩;rw[r]at j;obtain⟨A3,c3,rfl,-⟩:=j.form;have G:=jd (Ly.app (bV ZY.o ((aa _).alloc _)) j t);have vI:=jd t;have hl3:C.length<=f.length+1:=(by rw[<-r];simp);have U:=jd r;clear j t r));have bQ:=jd (bH HC.o (iw B) (au G.o.ext) (au G.o.ext));go_upto_region 10 with(first|(go_at_call 71;refine(FQ.o _ bQ.o).mono ?_;rintro e w4⟨L,A4,c4,rfl,M⟩;have yu:=jd M;have jY:=jd L;clear M L)|(at_builtin;refine kI j5 j6 rfl (by decide) (iw B) (by decide) mi rfl _ _ rfl S.heap.size _ _ _ C s (bV G.o jY.o).own yu.o rfl rfl (by omega) (by omega) (bV G.o jY.o).size ?_;intro v5 w5 j t;obtain⟨o5,Q⟩:∃J,C++s=J:=⟨_,rfl⟩;rw[Q]at j;obtain⟨A5,c5,rfl,-⟩:=j.form;have rF:=jd (Ly.app (bV G.o jY.o) j t);have hl5:o5.length<=C.length+s.length:=(by rw[<-Q];simp);have iM:=jd Q;clear j t Q));go_wp2_with(at_builtin;refine fQ j5 j6 rfl (by decide) (iw B) (by simp) rfl _ _ rfl S.heap.size _ o5 ⟨5,f.length,0,false,[]⟩ [.int .i64 5,.int .i64 f.length,.int .i64 0,.bool false,.slice none 0 0] 104 rF.o.own ⟨_,rfl,aS⟩ rfl (by simp[Value.oneCell']) rfl _ rfl (by simp) (by omega) (by omega) rF.o.size ?_;intro v6 w6 j t;obtain⟨o6,Q5⟩:∃J,o5++[⟨5,f.length,0,false,[]⟩]=J:=⟨_,rfl⟩;rw[Q5]at j;obtain⟨A6,c6,rfl,-⟩:=j.form;have Jt:=jd (Ly.app (bV rF.o ((aa _).alloc _)) j t);have HH6:=jd t;have FR:o6.length<=o5.length+1:=(by rw[<-Q5];simp);have tu:=jd Q5;clear j t Q5);go_ret;have HN:o6=R:=by rw[<-tu.o,<-iM.o,<-U.o,ZX.o]
    rw[<-HN];exact JR.weaken X.o Jt.o.ret
   .rw[ae K]at P;have hr2:(k:Int)<=hi:=by omega
    obtain⟨d,hd⟩:∃d:Nat,hi=k+d:=⟨(hi-k).toNat,by omega⟩;subst hd;have rR:k+d<=9:=by omega
    have hdn:((k:Int)+(d:Int)-k).toNat=d:=by omega
    have D:f.length+d*(c.length+1)<=1099511627776:=by rw[Gy.o];have:=HLp.o (by omega);rw[hdn]at this;exact this
    have O:((k:Int)+(d:Int)-(k:Int))*((c.length:Int)+1)=((d*(c.length+1):Nat):Int):=by rw[show(k:Int)+(d:Int)-(k:Int)=d by omega];push_cast;rfl
    obtain⟨N,hN⟩:∃N,d*(c.length+1)=N:=⟨_,rfl⟩;rw[hN]at D O;have p3:0<=((k:Int)+(d:Int)-(k:Int))*((c.length:Int)+1):=by rw[O];omega
    have p4:((k:Int)+(d:Int)-(k:Int))*((c.length:Int)+1)<=1099511627776:=by rw[O];omega
    obtain⟨all,E⟩:∃all:Int,(f.length:Int)+((k:Int)+(d:Int)-(k:Int))*((c.length:Int)+1)=all:=⟨_,rfl⟩;rw[E,show((k:Int)+(d:Int)-k).toNat=d by omega]at P;have aeR:0<=all:=by omega
    have aeS:all<=1099511627776:=by rw[<-E,O];omega
    have eB:=jd hN;clear O hN;have ZX:=jd P;have qA:=jd E;clear E P;go_upto_region 12 with fail;rw[qA.o];clear p3 p4;go_upto_region 13 with fail;go_loopw[5,9](fun v5 x w2=>∃(m:Nat)(o:List PG.aD),m<=d/\x=.int .i64 ((k+m:Nat):Int)/\o.length=f.length+m*(c.length+1)/\PG.Iq lazy all c (d-m) o=R/\Ly B S w2 v5 o)(fun _ x _=>k+d-(intOf x).toNat);case atStart=>exact⟨0,f,aL _,by go_num,by rw[Nat.zero_mul];rfl,ZX.o.symm,T.o⟩
    case round=>
     obtain⟨m,o,hm,rfl,F,DI,I⟩:=hrel;have T:=jd I;have Iy:=jd DI;obtain⟨A5,c5,rfl,-⟩:=I.own.form;have hmn:m*(c.length+1)<=N:=by rw[<-eB.o];exact tC _ hm
     have Cs:o.length<=1099511627776:=by omega
     have abz:=jd F;clear F;obtain⟨c0,c1,c2,c3,c4,c5',c6⟩:=cc7 (I.ext.heap HB.o);clear I DI;by_cases Z:m<d
     .obtain⟨i,u⟩:∃i,PG.sp2 lazy ((o.length:Int)+1) all=i:=⟨_,rfl⟩;have HIS:=jd (show i.set=[]by rw[<-u];exact PH _ _ _);have Cv:=jd (fun W=>DL kind deep k (k+d) lazy neg sv ((o.length:Int)+1) all W);rw[u]at Cv;have HI2:=jd u;clear u;go_upto_region 16 with(first|(go_at_call 108;refine(Cv.o _).mono ?_;rintro e w2⟨rfl,z⟩;have ZY:=jd (bV T.o z);clear z)|(at_builtin;refine fQ j5 j6 rfl (by decide) (iw B) (by simp) rfl _ _ rfl S.heap.size _ o i [.int .i64 i.op,.int .i64 i.x,.int .i64 i.y,.bool i.neg,.slice none 0 0] 104 ZY.o.own ⟨_,rfl,(by rw[HIS.o];exact aS)⟩ rfl (by simp[Value.oneCell']) rfl _ rfl (by simp) (by omega) (by omega) ZY.o.size ?_;intro v3 w3 j t;obtain⟨C,r⟩:∃J,o++[i]=J:=⟨_,rfl⟩;rw[r]at j;obtain⟨A3,c3,rfl,-⟩:=j.form;have G:=jd (Ly.app (bV ZY.o ((aa _).alloc _)) j t);have vI:=jd t;have hl3:C.length<=o.length+1:=(by rw[<-r];simp);have U:=jd r;clear j t r));have bQ:=jd (bH HC.o (iw B) (au G.o.ext) (au G.o.ext));obtain⟨s,p⟩:∃s,c.map (PG.moved (C.length:Int))=s:=⟨_,rfl⟩;have zX:=jd (show s.length=c.length by rw[<-p,fP]);have uu:o.length+1+s.length<=1099511627776:=by have h7:(m+1)*(c.length+1)<=N:=(by rw[<-eB.o];exact tC _ Z);rw[Nat.succ_mul]at h7;rw[abz.o,zX.o];omega
      have FQ:=jd (T9.o _ (C.length:Int) (by omega) (by omega) bQ.o);have Cu:=jd (show PG.Iq lazy all c (d-(m+1)) (C++s)=R by
       have h3:C.length=o.length+1:=by rw[<-U.o];simp
       rw[<-Iy.o,show d-m=(d-(m+1))+1 by omega,PG.Iq,HI2.o,U.o,<-p,h3]);rw[p]at FQ;clear p;go_wp2_with(first|(go_at_call 71;refine(FQ.o).mono ?_;rintro e w4⟨L,A4,c4,rfl,M⟩;have yu:=jd M;have jY:=jd L;clear M L)|(at_builtin;refine kI j5 j6 rfl (by decide) (iw B) (by decide) mi rfl _ _ rfl S.heap.size _ _ _ C s (bV G.o jY.o).own yu.o rfl rfl (by omega) (by omega) (bV G.o jY.o).size ?_;intro v5 w5 j t;obtain⟨o5,Q⟩:∃J,C++s=J:=⟨_,rfl⟩;rw[Q]at j;obtain⟨A5,c5,rfl,-⟩:=j.form;have rF:=jd (Ly.app (bV G.o jY.o) j t);have hl5:o5.length<=C.length+s.length:=(by rw[<-Q];simp);have iM:=jd Q;clear j t Q));go_roundw;case rel=>exact⟨m+1,o5,by omega,by go_num,by rw[<-iM.o,<-U.o,ai,ai,abz.o,zX.o,Nat.succ_mul];simp;omega,by rw[<-iM.o];exact Cu.o,rF.o⟩
      case measure=>simp[intOf];omega
     .obtain rfl:m=d:=by omega
      have HN:=jd (show o=R by rw[<-Iy.o,Nat.sub_self];rfl);go_wp2_with fail;go_ret;rw[<-HN.o];exact JR.weaken X.o T.o.ret
namespace PG
open RX(aA)
theorem QY(a:List Nat)(z:Nat):qw (a++[z])=min (qw a+z) 100000:=by unfold qw;rw[List.foldl_append];rfl
theorem Ps(a:List Nat):qw a<=100000:=by rw[Io];omega
theorem Pt{a:List (List aA)}(h:∀k∈a,0<k.length):a.length<=a.flatten.length:=by
 induction a with
 |nil=>simp
 |cons k a d=>have:=h k (by simp);have:=d (fun m e=>h m (by simp[e]));rw[xk,ai,aF];omega
theorem TJ{e:Int}{t:List aA}(h:Tree e t):∀n,xq n t<=100002+2*(t.length:Int):=by
 intro n;cases h with
 |mk e x a m p d=>
  cases n with
  |zero=>show(0:Int)<=_;omega
  |succ n=>
   rw[MB d];have r:=Pt (fun k f=>(d k f).pos);have s:(x::a.flatten).length=a.flatten.length+1:=aF;have i:=Ps (a.map fun l=>(xq n l).toNat);have j:(a.map fun l=>(xq n l).toNat).length=a.length:=fP _;unfold Y0;rw[j];generalize qw (a.map fun l=>(xq n l).toNat)=z at i;split
   .omega
   split
   .omega
   split
   .omega
   split
   .omega
   split
   .omega
   split
   .split<;>omega
   .omega
end PG
abbrev Iw(n:Nat)(e:Int)(t:List RX.aA):Prop:=∀(B:Nat)(L:List RX.aA)(v:Value)(w:World)(i:Nat),dI B B w v L->L.length<=1000000->PG.Sits L i e t->Calls Tryz.prog 70 #[v,.int .i64 i] w (qL (.int .i64 (PG.xq n t)) w)
theorem MG{n:Nat}{e:Int}{x:RX.aA}{d:List (List RX.aA)}(hd:x.deep=e)(hn:PG.NOk x d)(f:∀k∈d,PG.Tree (e+1) k)(ih:∀k∈d,Iw n (e+1) k)(N:d.flatten.length<=n):Iw (n+1) e (x::d.flatten):=by
 intro B L v w i hs hl G;have kG:=PG.Tree.mk e x d hd hn f;have hle:=G.le kG.pos;obtain⟨x',hx',-,-⟩:=G.deep kG;have J:=G.at_ (j:=0) (by simp);simp only[fB,List.getElem_cons_zero]at J;have hm:=PG.Pt (fun k C=>(f k C).pos);have zV:d.flatten.length+1<=1000000:=by have h2:(x::d.flatten).length=d.flatten.length+1:=aF;omega
 obtain⟨R,hR⟩:∃R,PG.xq (n+1) (x::d.flatten)=R:=⟨_,rfl⟩;have HR:=jd (show R=PG.Y0 x (d.map fun l=>(PG.xq n l).toNat)by rw[<-hR,PG.MB f]);rw[hR];obtain⟨A,c,rfl,hlc,hcc⟩:=hs.form;have HS:=jd hs;have mQ:=jd (fun H(h:dI B B H (.slice A L.length c) L)=>qM kG L _ H i h (by omega) G);have zW:=jd (fun j(p:j<d.length)=>G.kid f p);have TK:=jd (fun j(p:j<d.length)H(h:dI B B H (.slice A L.length c) L)=>qM (f _ (bK p)) L _ H _ h (by omega) (G.kid f p));have TL:=jd (fun j(p:j<d.length)H(h:dI B B H (.slice A L.length c) L)=>ih _ (bK p) B L _ H _ h hl (G.kid f p));have CV:=jd (fun j(p:j<d.length)=>PG.Pm (f _ (bK p)) n (aG (PG.fG (bK p)) N));have O:=jd (fun j(p:j<d.length)=>PG.TJ (f _ (bK p)) n);have Xm:=jd (fun j(p:j<d.length)=>PG.fG (bK (l:=d) (n:=j) p));have TM:=jd (fun j(p:j<d.length)=>(PG.zP (i:=i) p).symm);have tN:=jd (fun j(p:j<d.length)=>PG.Ik (i:=i) (x:=x) p (fun k C=>(f k C).pos));have tZ:=jd (PG.Dv i x d);obtain⟨hil,P⟩:=dh.1 J;obtain⟨g1,o1,cs,rfl,Q,s⟩:=HS.o.at_ hil;obtain⟨A1,c1,rfl⟩:=Q.cells;rw[P]at s;have I:=jd s;have HN:=jd hn;obtain⟨T,hT⟩:∃T,i+(x::d.flatten).length=T:=⟨_,rfl⟩;rw[hT]at mQ tN tZ hle;clear hs G hR hx' J Q s hn kG hT N ih P;have b4:(0:Int)<=(i:Int):=by omega
 have b2:(i:Int)<(L.length:Int):=by omega
 go_enter Tryz.func70,Tryz.ntmps70;go_upto_region 3 with fail;go_loopw[5,6,7](fun a b k wr=>∃j:Nat,j<=d.length/\a=.int .i64 (PG.qw ((d.take j).map fun l=>(PG.xq n l).toNat):Nat)/\b=.int .i64 j/\k=.int .i64 (PG.nA i d j:Nat)/\Ext w wr)(fun _ b _ _=>d.length-(intOf b).toNat);case atStart=>exact⟨0,aL _,rfl,rfl,by rw[PG.oh];go_num,aa _⟩
 case round=>
  obtain⟨j,p,rfl,rfl,rfl,hx⟩:=hrel;have D:=jd hx;have S:=jd (bH HS.o (dE _) (au hx) (au hx));clear hx;obtain⟨k,C⟩:∃k,PG.nA i d j=k:=⟨_,rfl⟩;obtain⟨z,U⟩:∃z,PG.qw ((d.take j).map fun l=>(PG.xq n l).toNat)=z:=⟨_,rfl⟩;have hz1:z<=100000:=by rw[<-U];exact PG.Ps _
  have HZ:=jd U;have HK:=jd C;rw[C,U];by_cases r:j<d.length
  .have Pv:k<T:=by rw[<-C];exact tN.o j r
   have d1:decide ((k:Int)<(T:Int))=true:=by simp;omega
   have nE:=jd (TK.o j r);have oI:=jd (TL.o j r);have hcl:=(CV.o j r).1;have hhi:=O.o j r;have hkl:=Xm.o j r;have V:=jd (show PG.qw ((d.take (j+1)).map fun l=>(PG.xq n l).toNat)=min (z+(PG.xq n d[j]).toNat) 100000 by rw[kE r,jS,lM,mM,PG.QY,HZ.o]);have tO:=jd (TM.o j r);rw[C]at nE oI tO;rw[tO.o]at nE;generalize PG.xq n d[j]=y at oI hcl hhi V;clear C U;go_upto_region 5 with(go_at_call 92;refine(mQ.o _ S.o).mono ?_;rintro e w1⟨rfl,E,rfl⟩);go_upto_region 6 with(go_at_call 70;refine(oI.o _ (bH S.o (dE _) (au ((aa _).drewN _)) (au ((aa _).drewN _)))).mono ?_;rintro e w2⟨rfl,X⟩;have jZ:=jd (((aa _).drewN _).trans X);clear X);go_wp2_with(go_at_call 92;refine(nE.o _ (bH S.o (dE _) (au jZ.o) (au jZ.o))).mono ?_;rintro e w3⟨rfl,m3,rfl⟩);go_roundw;case rel=>exact⟨j+1,by omega,by rw[V.o];go_num,by go_num,rfl,(D.o.trans jZ.o).drewN _⟩
   case measure=>simp[intOf];omega
  .obtain rfl:j=d.length:=by omega
   have Pv:k=T:=by rw[<-C];exact tZ.o
   subst Pv;have Y:=jd (show PG.qw (d.map fun l=>(PG.xq n l).toNat)=z by rw[<-HZ.o,xh]);have Z:(d.map fun l=>(PG.xq n l).toNat).length=d.length:=fP _;have HR2:=jd (show R=PG.Y0 x (d.map fun l=>(PG.xq n l).toNat)from HR.o);have q0:wr.cell? ⟨g1,o1+i*7,none⟩=_:=D.o.cell (I.o 0 _ rfl);have q1:=D.o.cell (I.o 1 _ rfl);have q2:=D.o.cell (I.o 2 _ rfl);have q3:=D.o.cell (I.o 3 _ rfl);have q4:=D.o.cell (I.o 4 _ rfl);have q5:=D.o.cell (I.o 5 _ rfl);have q6:=D.o.cell (I.o 6 _ rfl);have F:R=PG.Y0 x (d.map fun l=>(PG.xq n l).toNat):=HR.o;unfold PG.Y0 at F;rw[Z,Y.o]at F;have t:=jd F;have eB:=HN.o;obtain⟨⟨-,hlo0,TG,ZN⟩,K⟩:=eB;have hkr:x.kind=6->x.hi<0\/x.lo<=x.hi:=by omega
   have ZO:x.kind=0\/x.kind=1\/x.kind=2\/x.kind=3\/x.kind=4\/x.kind=5\/x.kind=6:=by omega
   clear F Z C U zW CV O Xm TM TK TL tN HZ HK tZ Y HR2 HR HN I K r p;generalize d.length=m at*;obtain⟨kind,deep,lo,hi,lazy,neg,set⟩:=x;dsimp only at*;go_upto_region 7 with(go_at_call 92;refine(mQ.o _ S.o).mono ?_;rintro e w1⟨rfl,E,rfl⟩);have M:=jd (D.o.drewN E);replace q0:=((aa wr).drewN E).cell q0;replace q1:=((aa wr).drewN E).cell q1;replace q2:=((aa wr).drewN E).cell q2;replace q3:=((aa wr).drewN E).cell q3;replace q4:=((aa wr).drewN E).cell q4;replace q5:=((aa wr).drewN E).cell q5;replace q6:=((aa wr).drewN E).cell q6;clear S D;generalize wr.drewN E=w1 at*;rcases ZO with h|h|h|h|h|h|h<;>subst h
   .have u:R=z:=by have:=t.o;simpa using this
    (go_wp2_with fail);all_goals(go_ret;exact⟨aH (congrArg (Value.int .i64) (by omega)),M.o.alloc _⟩)
   .have u:R=z+2*((m:Int)-1):=by have:=t.o;simpa using this
    (go_wp2_with fail);all_goals(go_ret;exact⟨aH (congrArg (Value.int .i64) (by omega)),M.o.alloc _⟩)
   rotate_left;rotate_left;rotate_left
   .by_cases h5:0<lo
    .have u:R=z+2:=by have:=t.o;simpa[h5]using this
     (go_wp2_with fail);all_goals(go_ret;exact⟨aH (congrArg (Value.int .i64) (by omega)),M.o.alloc _⟩)
    .have u:R=z:=by have:=t.o;simpa[h5]using this
     (go_wp2_with fail);all_goals(go_ret;exact⟨aH (congrArg (Value.int .i64) (by omega)),M.o.alloc _⟩)
   .have p1:0<=lo*(z:Int):=Int.mul_nonneg hlo0 (by omega);have p2:lo*(z:Int)<=900000:=Int.le_trans (Int.mul_le_mul TG (show(z:Int)<=100000 by omega) (by omega) (by omega)) (by omega);by_cases h6:hi<0
    .have u:R=min (lo*z+z+2) 100000:=by have:=t.o;simpa[h6]using this
     (go_wp2_with fail);all_goals(go_ret;exact⟨aH (congrArg (Value.int .i64) (by omega)),M.o.alloc _⟩)
    .have p5:lo<=hi:=by have:=hkr rfl;omega
     have p3:0<=(hi-lo)*((z:Int)+1):=Int.mul_nonneg (by omega) (by omega);have p4:(hi-lo)*((z:Int)+1)<=1000000:=Int.le_trans (Int.mul_le_mul (show hi-lo<=9 by omega) (show(z:Int)+1<=100001 by omega) (by omega) (by omega)) (by omega);have u:R=min (lo*z+(hi-lo)*(z+1)) 100000:=by have:=t.o;simpa[h6]using this
     (go_wp2_with fail);all_goals(go_ret;exact⟨aH (congrArg (Value.int .i64) (by omega)),M.o.alloc _⟩)
   all_goals
    have u:R=1:=by have:=t.o;simpa using this
    (go_wp2_with fail);all_goals(go_ret;exact⟨aH (congrArg (Value.int .i64) (by omega)),M.o.alloc _⟩)
theorem DF{e:Int}{t:List RX.aA}(h:PG.Tree e t):∀n,t.length<=n->Iw n e t:=by
 induction h with
 |mk e x d i j a m=>
  intro n p;cases n with
  |zero=>simp at p
  |succ n=>have r:(x::d.flatten).length=d.flatten.length+1:=aF;exact MG i j a (fun k f=>m k f n (aG (PG.fG f) (by omega))) (by omega)
end
namespace PG
open RX(aA)
theorem Gx{K:Nat}:∀(cs:List (List aD))(k m:Nat),(∀c∈cs,Tb (c.length+K) c)->k+lens cs+K<=m->Tb m (fl k cs)
|[],_,m,_,_=>qy m
|c::cs,k,m,h,e=>by have f:lens (c::cs)=c.length+lens cs:=rfl;exact((h c (by simp)).Cr (by omega)).app (Gx cs (k+c.length) m (fun d a=>h d (by simp[a])) (by omega))
theorem TR{K:Nat}{z:Int}:∀(cs:List (List aD))(f:List aD)(m:Nat),(∀c∈cs,Tb (c.length+K) c)->Tb m f->f.length+(bB cs).length+K<=m->0<=z->z<=m->Tb m (Ip z f cs)
|[],f,m,_,i,_,_,_=>i
|[c],f,m,h,i,r,_,_=>i.app ((h c (by simp)).Cr (by have e:(bB [c]).length=c.length:=rfl;omega))
|c::d::cs,f,m,h,i,r,j,k=>by
 have s:bB (c::d::cs)=fl 0 [qG (c.length+2) false,c,iJ ((bB (d::cs)).length+1),bB (d::cs)]:=rfl;have t:(bB (c::d::cs)).length=c.length+(bB (d::cs)).length+2:=by rw[s,dG,Bz];simp[qG,iJ];omega
 rw[Ip];refine TR (d::cs) _ m (fun x p=>h x (by simp at p⊢;exact .inr p)) ?_ (by simp only[ai,fP,aF,aN];omega) j k;exact((i.app (zU false (a:=f.length+1) (b:=f.length+c.length+2) (by omega) (by omega))).app ((h c (by simp)).Cr (by omega))).app (CU ⟨j,k⟩)
theorem J9{K:Nat}(c:List aD)(lz:Bool)(h:Tb (c.length+K) c):∀n,Tb ((dB c lz n).length+K) (dB c lz n)
|0=>qy _
|n+1=>by
 have a:=J9 c lz h n;have d:(dB c lz (n+1)).length=1+c.length+(dB c lz n).length:=by rw[dB,dG,uq];simp[qG];omega
 rw[d,dB];simp only[fl,iU];have e:=qP 0 (1+c.length+(dB c lz n).length) lz 1 (1+c.length+(dB c lz n).length) rfl (by omega);rw[e];refine(zU lz (by omega) (by omega)).app ((h.Cr ?_).app (a.Cr ?_))
 .simp[qG];omega
 .simp[qG];omega
theorem Xn{K:Nat}(c:List aD)(lz:Bool)(h:Tb (c.length+K) c):Tb ((nO c lz).length+K) (nO c lz):=by
 have a:(nO c lz).length=c.length+2:=by rw[nO,dG,uq];simp[qG,iJ];omega
 rw[a,nO];simp only[fl,iU];have d:=qP 0 (c.length+2) lz 1 (c.length+2) rfl (by omega);rw[d];refine(zU lz (by omega) (by omega)).app ((h.Cr ?_).app ?_)
 .simp[qG];omega
 .have e:(iJ (-(c.length:Int)-1)).map (moved ((0+(qG ((c.length:Int)+2) lz).length+c.length:Nat):Int))=[⟨5,0,0,false,[]⟩]:=by simp only[iJ,qG,lM,mM,moved,ae (show¬(5:Int)=4 by decide),av,aF,aN];congr 2;push_cast;omega
  rw[e];exact CU (by omega)
theorem Py{K:Nat}(c:List aD)(h:Tb (c.length+K) c)(n:Nat):Tb ((nP c n).length+K) (nP c n):=by unfold nP;rw[dG];exact Gx _ 0 _ (fun d a=>by rw[List.eq_of_mem_replicate a];exact h) (by omega)
theorem Xo{K:Nat}{cs:List (List aD)}(h:∀c∈cs,Tb (c.length+K) c):Tb ((cs.headD []).length+K) (cs.headD []):=by
 cases cs with
 |nil=>exact qy _
 |cons c cs=>exact h c (by simp)
theorem Xp{K:Nat}(x:aA)(z:Int)(cs:List (List aD))(h:∀c∈cs,Tb (c.length+K) c)(e:0<=z)(f:z<=K):Tb ((pM x z cs).length+K) (pM x z cs):=by
 have d:=Xo h;unfold pM;split
 .rw[CW];exact TR cs [] _ h (qy _) (az _) e (by omega)
 unfold nQ;split
 .rw[dG];exact Gx _ 0 _ h (by omega)
 split
 .exact qz ⟨fun h=>absurd h (show¬(0:Int)=4 by decide),fun h=>absurd h (show¬(0:Int)=5 by decide)⟩
 split
 .exact qz ⟨fun h=>absurd h (show¬(1:Int)=4 by decide),fun h=>absurd h (show¬(1:Int)=5 by decide)⟩
 split
 .exact qz ⟨fun h=>absurd h (show¬(2:Int)=4 by decide),fun h=>absurd h (show¬(2:Int)=5 by decide)⟩
 split
 .split
  .rw[dG];refine Gx (K:=K) _ 0 _ (fun c a=>?_) (by omega);simp at a;rcases a with rfl|rfl|rfl
   .exact CS _ _
   .simpa using d
   .exact CS _ _
  .exact d
 split
 .rw[dG];refine Gx (K:=K) _ 0 _ (fun c a=>?_) (by omega);simp at a;rcases a with rfl|rfl
  .exact Py _ (by simpa using d) _
  .exact Xn _ _ (by simpa using d)
 .rw[dG];refine Gx (K:=K) _ 0 _ (fun c a=>?_) (by omega);simp at a;rcases a with rfl|rfl
  .exact Py _ (by simpa using d) _
  .exact J9 _ _ (by simpa using d) _
theorem Pz{e:Int}{t:List aA}(h:Tree e t):∀n,t.length<=n->t.length<=1000000->Tb ((iA n t).length+2200000) (iA n t):=by
 induction h with
 |mk e x d j p a r=>intro n s w;have f:=Tree.mk e x d j p a;have z:(x::d.flatten).length=d.flatten.length+1:=aF;obtain⟨n,rfl⟩:∃m,n=m+1:=⟨n-1,by omega⟩;rw[yI a];have u:=Pm f (n+1) s;have A:=TJ f (n+1);refine Xp x _ _ (fun c v=>?_) u.1 (by omega);obtain⟨k,i,rfl⟩:=xu.1 v;have:=fG i;exact r k i n (by omega) (by omega)
end PG
section
open Go.RowKit
abbrev CX(n:Nat)(e:Int)(t:List RX.aA):Prop:=∀(B:Nat)(L:List RX.aA)(v:Value)(w:World)(i:Nat),dI B B w v L->L.length<=1000000->PG.Sits L i e t->PG.xM 1099511627776 n t->Calls Tryz.prog 72 #[v,.int .i64 i] w (JR B (PG.iA n t) w)
namespace PG
theorem Xq(all:Int)(a c:List aD):Ip all a [c]=a++c.map (moved a.length):=rfl
theorem Xr(z:Int)(a c:List aD)(cs:List (List aD))(h:cs≠[]):Ip z a (c::cs)=Ip z (a++[⟨4,a.length+1,a.length+c.length+2,false,[]⟩]++c.map (moved (a.length+1:Nat))++[⟨5,z,0,false,[]⟩]) cs:=by
 cases cs with
 |nil=>exact absurd rfl h
 |cons d cs=>rfl
theorem MH(c:List aD)(cs:List (List aD))(h:cs≠[]):(bB (c::cs)).length=c.length+(bB cs).length+2:=by
 cases cs with
 |nil=>exact absurd rfl h
 |cons d cs=>rw[pK,pK];simp[lH];omega
end PG
theorem FZ{n:Nat}{e:Int}{x:RX.aA}{d:List (List RX.aA)}(hd:x.deep=e)(hn:PG.NOk x d)(hk1:x.kind=1)(p:∀k∈d,PG.Tree (e+1) k)(ih:∀k∈d,CX n (e+1) k)(hln:d.flatten.length<=n)(B:Nat)(L:List RX.aA)(v:Value)(w:World)(i:Nat)(hs:dI B B w v L)(hl:L.length<=1000000)(hp:PG.Sits L i e (x::d.flatten))(hsm:PG.xM 1099511627776 (n+1) (x::d.flatten)):Calls Tryz.prog 93 #[v,.int .i64 i] w (JR B (PG.iA (n+1) (x::d.flatten)) w):=by
 have kG:=PG.Tree.mk e x d hd hn p;have hle:=hp.le kG.pos;obtain⟨ZP,MI⟩:=PG.Pw p hsm;obtain⟨G,K⟩:∃G,d.map (PG.iA n)=G:=⟨_,rfl⟩;have hcl:G.length=d.length:=by rw[<-K,fP]
 obtain⟨z,hz⟩:∃z,PG.xq (n+1) (x::d.flatten)=z:=⟨_,rfl⟩;have Q0:=jd (show PG.iA (n+1) (x::d.flatten)=PG.Ip z [] G by rw[PG.yI p,K,hz];unfold PG.pM;rw[av hk1]);obtain⟨all,H⟩:∃all,PG.gH (n+1) (x::d.flatten)=all:=⟨_,rfl⟩;have Tg:=jd (show(PG.bB G).length=all by have:=congrArg List.length Q0.o;rw[PG.vH,PG.CW,H]at this;simpa using this.symm);rw[Q0.o];rw[H]at ZP;have hiL:i<L.length:=by have:=kG.pos;omega
 obtain⟨A,c,rfl,hlc,hcc⟩:=hs.form;have HS:=jd hs;have abr:(x::d.flatten).length<=n+1:=by have C:(x::d.flatten).length=d.flatten.length+1:=aF;omega
 have MJ:=jd (show Calls Tryz.prog 70 #[.slice A L.length c,.int .i64 i] w (qL (.int .i64 z) w)from by have:=DF kG (n+1) abr B L _ w i hs hl hp;rw[hz]at this;exact this);have mQ:=jd (fun R(h:dI B B R (.slice A L.length c) L)=>qM kG L _ R i h (by omega) hp);have TK:=jd (fun j(f:j<d.length)R(h:dI B B R (.slice A L.length c) L)=>qM (p _ (bK f)) L _ R _ h (by omega) (hp.kid p f));have TL:=jd (fun j(f:j<d.length)R(h:dI B B R (.slice A L.length c) L)=>ih _ (bK f) B L _ R _ h hl (hp.kid p f) (MI _ (bK f)));have Xm:=jd (fun j(f:j<d.length)=>PG.Px (MI _ (bK f)));have E:∀j(f:j<d.length),(d[j]).length<=n:=fun j f=>aG (PG.fG (bK f)) hln;have Y2:=jd (fun j(f:j<d.length)=>PG.Pz (p _ (bK f)) n (E j f) (by have h3:=PG.fG (bK f);have h4:(x::d.flatten).length=d.flatten.length+1:=aF;omega));have yJ:=jd (fun j(f:j<d.length)=>show G.drop j=PG.iA n d[j]::G.drop (j+1)by rw[ed (by omega)];subst K;rw[List.getElem_map]);have TM:=jd (fun j(f:j<d.length)=>(PG.zP (i:=i) f).symm);have tN:=jd (fun j(f:j<d.length)=>PG.Ik (i:=i) (x:=x) f (fun k S=>(p k S).pos));have Y3:=jd (fun j(f:j<d.length)=>(p _ (bK f)).pos);have tZ:=jd (PG.Dv i x d);obtain⟨T,hT⟩:∃T,i+(x::d.flatten).length=T:=⟨_,rfl⟩;rw[hT]at mQ tN tZ hle;obtain⟨M,Ka⟩:∃M,PG.Ip z [] G=M:=⟨_,rfl⟩;have xw:=jd Ka;rw[Ka];clear hs hp kG hT ih Ka hsm MI K H abr Q0 hz E;go_enter Tryz.func93,Tryz.ntmps93;go_upto_region 4 with(go_at_call 70;refine MJ.o.mono ?_;rintro e w1⟨rfl,hx1⟩;have Y:=jd hx1;clear hx1);have qH:=jd (bH HS.o (dE _) (au Y.o) (au Y.o));clear MJ HS;go_loopw[6,7](fun v6 k wr=>∃(j:Nat)(a:List PG.aD),j<=d.length/\k=.int .i64 (PG.nA i d j:Nat)/\a.length+(PG.bB (G.drop j)).length=all/\PG.Ip z a (G.drop j)=M/\Ly B w1 wr v6 a)(fun _ k _=>L.length-(intOf k).toNat);case atStart=>exact⟨0,[],aL _,by rw[PG.oh];go_num,by rw[List.drop_zero,Tg.o];simp,xw.o,Ly.eU⟩
 case round=>
  obtain⟨j,a,f,rfl,hol,DI,rQ⟩:=hrel;have HL:=jd rQ;have Iy:=jd DI;have Gy:=jd hol;have Cs:a.length<=1099511627776:=by omega
  have FY:=jd (bH qH.o (dE _) (au rQ.ext) (au rQ.ext));obtain⟨A6,c6,rfl,-⟩:=rQ.own.form;obtain⟨k,S⟩:∃k,PG.nA i d j=k:=⟨_,rfl⟩;rw[S];clear rQ DI hol;by_cases t:j<d.length
  .have Pv:k<T:=by rw[<-S];exact tN.o j t
   have d1:decide ((k:Int)<(T:Int))=true:=by simp;omega
   have nE:=jd (TK.o j t);have oI:=jd (TL.o j t);have tO:=jd (TM.o j t);have uu:=Xm.o j t;have lY:=jd ((Y2.o j t).mono (show(PG.iA n d[j]).length+2200000<=1100000000000 by omega));have hkl:=Y3.o j t;have xN:=jd (yJ.o j t);rw[S]at nE oI tO;rw[tO.o]at nE;obtain⟨Z,E⟩:∃Z,PG.nA i d (j+1)=Z:=⟨_,rfl⟩;have hkk:k<Z:=by have:=tO.o;omega
   have Q4:=jd E;rw[E]at nE;generalize PG.iA n d[j]=F at oI uu lY xN;have tQ:=Iy.o;have xO:=Gy.o;rw[xN.o]at tQ xO;have Cu:=jd tQ;have Kb:=jd xO;clear S E tQ xO hkl;go_upto_region 6 with(go_at_call 92;refine(mQ.o _ FY.o).mono ?_;rintro e w1e⟨rfl,abt⟩;have Xt:=jd (show Ext wr w1e by obtain⟨m,rfl⟩:=abt;exact(aa _).drewN m);clear abt;have Ke:=jd (bH FY.o (dE _) (au Xt.o) (au Xt.o)));go_upto_region 7 with(first|(go_at_call 92;refine(mQ.o _ abu.o).mono ?_;rintro e w3⟨rfl,hd3⟩;have sZ:=jd (show Ext w2 w3 by obtain⟨m,rfl⟩:=hd3;exact(aa _).drewN m);clear hd3;have adm:=jd (bH abu.o (dE _) (au sZ.o) (au sZ.o)))|(go_at_call 92;refine(nE.o _ Ke.o).mono ?_;rintro e w2⟨rfl,hd2⟩;have N:=jd (show Ext w1e w2 by obtain⟨m,rfl⟩:=hd2;exact(aa _).drewN m);clear hd2;have abu:=jd (bH Ke.o (dE _) (au N.o) (au N.o))));go_upto_region 8 with(go_at_call 72;refine(oI.o _ adm.o).mono ?_;rintro e w7⟨hx7,A7,c7,rfl,hs7⟩;have Ti:=jd hs7;have Gz:=jd (Xt.o.trans (N.o.trans (sZ.o.trans hx7)));have tq:=jd (bV HL.o Gz.o);clear hs7 hx7);have HOB:=jd (show∀b,(Value.slice A6 a.length c6).ownBlock=some b->b<w3.heap.size from fun b hb=>mJ (HL.o.own.lt b hb).2 (aG Xt.o.size (aG N.o.size sZ.o.size)));by_cases hlast:j+1<d.length
   .have abv:Z<T:=by rw[<-Q4.o];exact tN.o _ hlast
    have d2:decide ((T:Int)<=(Z:Int))=false:=by simp;omega
    have d3:decide (T<=Z)=false:=by simp;omega
    have u:G.drop (j+1)≠[]:=by intro h;have:=congrArg List.length h;rw[jU]at this;simp at this;omega
    have U:=Cu.o;have MK:=Kb.o;rw[PG.Xr _ _ _ _ u]at U;rw[PG.MH _ _ u]at MK;have hsum:a.length+F.length+2<=1099511627776:=by omega
    have ZQ:=jd U;have ZR:=jd MK;clear U MK u;go_upto_region 10 with(at_builtin;refine fQ j5 j6 rfl (by decide) (iw B) (by simp) rfl _ _ rfl w1.heap.size _ a ⟨4,a.length+1,a.length+F.length+2,false,[]⟩ [.int .i64 4,.int .i64 ((a.length:Int)+1),.int .i64 ((a.length:Int)+F.length+2),.bool false,.slice none 0 0] 104 tq.o.own ⟨_,rfl,aS⟩ rfl (by simp[Value.oneCell']) rfl _ rfl (by simp) (by omega) (by omega) tq.o.size ?_;intro v3 w3 r C;obtain⟨o3,O⟩:∃zz,a++[⟨4,a.length+1,a.length+F.length+2,false,[]⟩]=zz:=⟨_,rfl⟩;rw[O]at r;obtain⟨A3,c3,rfl,-⟩:=r.form;have rE:=jd (Ly.app (bV tq.o ((aa _).alloc _)) r C);have vI:=jd C;have hl3:o3.length<=a.length+1:=(by rw[<-O];simp);have gz:=jd O;clear r C O);have Xu:=jd (Ly.keep (bV tq.o ((aa _).alloc _)) vI.o (bH Ti.o (iw B) (au ((aa _).alloc _)) (au ((aa _).alloc _))) HOB.o);obtain⟨D,s⟩:∃D,F.map (PG.moved (o3.length:Int))=D:=⟨_,rfl⟩;have TT:D.length<=1099511627776:=by rw[<-s,fP];exact uu
    have FQ:=jd (ky F _ _ (o3.length:Int) Xu.o (by omega) (by omega) (by omega) lY.o);rw[s]at FQ;have HCM:=jd s;clear s;go_upto_region 12 with(first|(go_at_call 71;refine(FQ.o).mono ?_;rintro e w4⟨I,A4,c4,rfl,J⟩;have yu:=jd J;have jY:=jd I;clear J I)|(at_builtin;refine kI j5 j6 rfl (by decide) (iw B) (by decide) mi rfl _ _ rfl w1.heap.size _ _ _ o3 D (bV rE.o jY.o).own yu.o rfl rfl (by omega) (by omega) (bV rE.o jY.o).size ?_;intro v5 w5 r C;obtain⟨V,P⟩:∃zz,o3++D=zz:=⟨_,rfl⟩;rw[P]at r;obtain⟨A5,c5,rfl,-⟩:=r.form;have Q:=jd (Ly.app (bV rE.o jY.o) r C);have hl5:V.length<=o3.length+D.length:=(by rw[<-P];simp);have iM:=jd P;clear r C P));have ae3:=jd (bH qH.o (dE _) (au Q.o.ext) (au Q.o.ext));go_upto_region 5 with(at_builtin;refine fQ j5 j6 rfl (by decide) (iw B) (by simp) rfl _ _ rfl w1.heap.size _ V ⟨5,z,0,false,[]⟩ [.int .i64 5,.int .i64 z,.int .i64 0,.bool false,.slice none 0 0] 104 Q.o.own ⟨_,rfl,aS⟩ rfl (by simp[Value.oneCell']) rfl _ rfl (by simp) (by omega) (by omega) Q.o.size ?_;intro v6 w6 r C;obtain⟨o6,Q5⟩:∃zz,V++[⟨5,z,0,false,[]⟩]=zz:=⟨_,rfl⟩;rw[Q5]at r;obtain⟨A6,c6,rfl,-⟩:=r.form;have Jt:=jd (Ly.app (bV Q.o ((aa _).alloc _)) r C);have HH6:=jd C;have FR:o6.length<=V.length+1:=(by rw[<-Q5];simp);have tu:=jd Q5;clear r C Q5);have Iz:=jd (bH qH.o (dE _) (au Jt.o.ext) (au Jt.o.ext));go_wp2_with(go_at_call 92;refine(nE.o _ Iz.o).mono ?_;rintro e w9⟨rfl,X⟩;have wN:=jd (show Ext _ w9 by obtain⟨m,rfl⟩:=X;exact(aa _).drewN m);clear X);go_roundw;case rel=>
     have h3:o3.length=a.length+1:=by rw[<-gz.o];simp
     have h5:o6=a++[⟨4,a.length+1,a.length+F.length+2,false,[]⟩]++F.map (PG.moved (a.length+1:Nat))++[⟨5,z,0,false,[]⟩]:=by rw[<-tu.o,<-iM.o,<-HCM.o,h3,gz.o]
     have h6:o6.length=a.length+F.length+2:=by rw[h5];simp;omega
     exact⟨j+1,o6,by omega,by rw[Q4.o],by rw[h6];have:=ZR.o;omega,by rw[h5];exact ZQ.o,bV Jt.o wN.o⟩
    case measure=>simp[intOf];omega
   .have hjm:j+1=d.length:=by omega
    have abv:Z=T:=by rw[<-Q4.o,hjm];exact tZ.o
    subst abv;have u:G.drop (j+1)=[]:=jg (by omega);have U:=Cu.o;rw[u,PG.Xq]at U;obtain⟨D,s⟩:∃D,F.map (PG.moved (a.length:Int))=D:=⟨_,rfl⟩;have TT:D.length<=1099511627776:=by rw[<-s,fP];exact uu
    have FQ:=jd (ky F _ _ (a.length:Int) Ti.o (by omega) (by omega) (by omega) lY.o);rw[s]at FQ U;have ZQ:=jd U;have nG:=jd u;have zX:=jd (show D.length=F.length by rw[<-s,fP]);have MK:=Kb.o;rw[u]at MK;have ZR:=jd (show a.length+F.length=all from MK);have HJM:=jd hjm;clear s u U MK hjm;go_upto_region 5 with(first|(go_at_call 71;refine(FQ.o).mono ?_;rintro e w4⟨I,A4,c4,rfl,J⟩;have yu:=jd J;have jY:=jd I;clear J I)|(at_builtin;refine kI j5 j6 rfl (by decide) (iw B) (by decide) mi rfl _ _ rfl w1.heap.size _ _ _ a D (bV tq.o jY.o).own yu.o rfl rfl (by omega) (by omega) (bV tq.o jY.o).size ?_;intro v5 w5 r C;obtain⟨V,P⟩:∃zz,a++D=zz:=⟨_,rfl⟩;rw[P]at r;obtain⟨A5,c5,rfl,-⟩:=r.form;have Q:=jd (Ly.app (bV tq.o jY.o) r C);have hl5:V.length<=a.length+D.length:=(by rw[<-P];simp);have iM:=jd P;clear r C P));have Iz:=jd (bH qH.o (dE _) (au Q.o.ext) (au Q.o.ext));go_wp2_with(go_at_call 92;refine(nE.o _ Iz.o).mono ?_;rintro e w9⟨rfl,X⟩;have wN:=jd (show Ext _ w9 by obtain⟨m,rfl⟩:=X;exact(aa _).drewN m);clear X);go_roundw;case rel=>
     have h6:V.length=all:=by rw[<-iM.o,ai,zX.o];exact ZR.o
     exact⟨j+1,V,by have:=HJM.o;omega,by rw[Q4.o],by rw[h6,nG.o];rfl,by rw[nG.o,<-iM.o];exact ZQ.o,bV Q.o wN.o⟩
    case measure=>simp[intOf];omega
  .obtain rfl:j=d.length:=by omega
   have Pv:k=T:=by rw[<-S];exact tZ.o
   subst Pv;have HN:=jd (show a=M by have:=Iy.o;rw[jg (by omega)]at this;exact this);clear S;go_wp2_with(go_at_call 92;refine(mQ.o _ FY.o).mono ?_;rintro e w9⟨rfl,X⟩;have wN:=jd (show Ext wr w9 by obtain⟨m,rfl⟩:=X;exact(aa _).drewN m);clear X);go_ret;rw[<-HN.o];exact JR.weaken Y.o (Ly.ret (bV HL.o wN.o))
end
end Go.Proofs.YtcogknbbbjnaiaaGreatDoor
