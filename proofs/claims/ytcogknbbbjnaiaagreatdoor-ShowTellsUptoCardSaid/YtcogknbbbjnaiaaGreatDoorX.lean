/- For ShowTells: what the texts XPgW XPgZ of wip/tpl say. -/
import Derived.Test.YtcogknbbbjnaiaaGreatDoorK
import Derived.Test.YtcogknbbbjnaiaaGreatDoorO
set_option maxRecDepth 100000
set_option maxHeartbeats 4000000
namespace Go.Proofs.YtcogknbbbjnaiaaGreatDoor
open Go.RowKit
namespace PG
open RX(aA)
theorem G8:∀(n m:Nat)(r:List aA),r.length<=n->r.length<=m->kids n r=kids m r
|0,m,r,h,_=>by
 cases r with
 |nil=>cases m<;>rfl
 |cons x r=>simp at h
|n+1,0,r,_,h=>by
 cases r with
 |nil=>rfl
 |cons x r=>simp at h
|n+1,m+1,r,a,d=>by
 cases r with
 |nil=>rfl
 |cons x r=>rw[kids,kids];congr 1;have:=(List.dropWhile_sublist (l:=r) (fun y:aA=>decide (x.deep<y.deep))).length_le;simp at a d;exact G8 n m _ (by omega) (by omega)
def qa(r:List aA):List (List aA):=kids r.length r
theorem ED{l:List aA}{i k:Nat}(hi:i<k)(f:k<=l.length)(h:∀j(m:j<l.length),i<j->j<k->(l[i]'(mJ hi f)).deep<l[j].deep)(w:∀m:k<l.length,¬(l[i]'(mJ hi f)).deep<l[k].deep):qa (l.drop i)=(l.drop i).take (k-i)::qa (l.drop k):=by
 have s:=mJ hi f;unfold qa;rw[ed s];have t:l.drop (i+1)=(l.drop (i+1)).take (k-i-1)++l.drop k:=by
  conv=>lhs;rw[<-List.take_append_drop (k-i-1) (l.drop (i+1))]
  rw[List.drop_drop,show i+1+(k-i-1)=k by omega]
 have u:=j4 (p:=fun y:aA=>decide (l[i].deep<y.deep)) (a:=(l.drop (i+1)).take (k-i-1)) (b:=l.drop k) (fun x d=>by obtain⟨j,m,rfl⟩:=List.getElem_of_mem d;have v:=m;rw[kg,jU]at v;rw[List.getElem_take,List.getElem_drop];exact bJ (h _ (by omega) (by omega) (by omega))) (fun x r d=>by
  have e:k<l.length:=by have:=congrArg List.length d;rw[jU]at this;simp at this;omega
  rw[ed e]at d;injection d with d _;rw[<-d];exact bR (w e));rw[<-t]at u;rw[aF,kids,u.1,u.2,show k-i=(k-i-1)+1 by omega,List.take_succ_cons];congr 1;exact G8 _ _ _ (by rw[jU,jU];omega) (az _)
end PG
theorem aT.ab7{α:Type}{t sz:Nat}{C:World->List Value->α->Prop}{B:Nat}{w:World}{A:Option Addr}{n c:Nat}{xs:List α}(h:aT t sz C B w (.slice A n c) xs){k m:Nat}(P:k<m)(Q:m<=xs.length):aT t sz C B w (.slice (iD A c k sz) (m-k) (c-k)) ((xs.drop k).take (m-k)):=by
 obtain⟨R,S,s,T,U,v,z⟩:=h;injection s with D E F;subst D E F;have d:((xs.drop k).take (m-k)).length=m-k:=by rw[kg,jU];omega
 refine⟨iD A c k sz,c-k,by rw[d],by rw[d];omega,by omega,?_,?_⟩
 .intro p;unfold iD at p;split at p
  .omega
  .cases A with
   |none=>have:=v rfl;omega
   |some _=>cases p
 .intro V a;unfold iD at a;rw[ae (by omega)]at a;cases A with
  |none=>cases a
  |some G=>
   obtain⟨g,o,r,rfl,H,I,X,J⟩:=z G rfl;simp only[Option.map_some,Option.some.injEq]at a;have e:(⟨g,o,none⟩:Addr).add (k*sz)=⟨g,o+k*sz,none⟩:=by unfold Addr.add;split<;>simp_all
   rw[e]at a;subst a;have K:(c-k)*sz+k*sz=c*sz:=by rw[<-pJ];congr 1;omega
   refine⟨g,o+k*sz,r,rfl,H,I,by omega,fun j x f=>?_⟩;rw[pY]at f;split at f
   .rw[List.getElem?_drop]at f;obtain⟨L,M,N⟩:=J _ _ f;refine⟨L,M,fun i u O=>?_⟩;have:=N i u O;rw[pJ]at this;rw[show o+k*sz+j*sz+i=o+(k*sz+j*sz)+i by omega];exact this
   .cases f
theorem KY{g o c k sz:Nat}(h:c≠k):iD (some ⟨g,o,none⟩) c k sz=some ⟨g,o+k*sz,none⟩:=by
 unfold iD;rw[ae h];have a:(⟨g,o,none⟩:Addr).add (k*sz)=⟨g,o+k*sz,none⟩:=by unfold Addr.add;split<;>simp_all
 rw[Option.map_some,a]
abbrev Kc(w:World):World->List Value->List RX.aA->Prop:=fun _ cs kid=>CL 0 w cs kid
theorem EF(w:World)(T:List TypeId):fO T (Kc w):=fun _ _ _ _ _ h=>h
def ab8(K:List (List RX.aA))(w:World)(e:Ending)(w':World):Prop:=Ext w w'/\∃A c,e=.returned (.slice A K.length c)/\aT 99 1 (Kc w) w.heap.size w' (.slice A K.length c) K
theorem RO(l:List RX.aA)(v:Value)(w:World)(O:dI 0 0 w v l)(hl:l.length<=100000000):Calls Tryz.prog 132 #[v] w (ab8 (PG.qa (l.drop 1)) w):=by
 obtain⟨A,c,rfl,hlc,hcc⟩:=O.form;have N:=jd O;obtain⟨K,P⟩:∃K,PG.qa (l.drop 1)=K:=⟨_,rfl⟩;rw[P];have HK:=jd P;clear O P;go_enter Tryz.func132,Tryz.ntmps132;go_upto_region 3 with fail;go_loopw[3,4](fun v3 x wr=>∃(i:Nat)(f:List (List RX.aA)),1<=i/\x=.int .i64 (i:Int)/\f.length<=i/\i<=l.length+1/\Ext w wr/\ay 99 1 (Kc w) w.heap.size wr v3 f/\f++PG.qa (l.drop i)=K)(fun _ x _=>l.length+1-(intOf x).toNat);case atStart=>exact⟨1,[],az _,rfl,aL _,by omega,aa _,dO,HK.o⟩
 case round=>
  obtain⟨i,f,hi1,rfl,hki,hil,Q,p,hT⟩:=hrel;have G:=jd Q;have H:=jd p;have R:=jd hT;obtain⟨Al,cl,rfl,hcl,-⟩:=p.form;have I:=Q.size;clear Q p hT;by_cases S:i<l.length;rotate_left
  .have HN:=jd (show K=f by rw[<-R.o,jg (by omega)];simp[PG.qa,PG.kids]);go_wp2_with fail;rw[HN.o];go_ret;exact⟨G.o,Al,cl,rfl,H.o.sl⟩
  obtain⟨B,o1,cs,rfl,r,a⟩:=N.o.at_ S;obtain⟨A1,c1,rfl⟩:=r.cells;have d1:wr.cell? ⟨B,o1+i*7+1,none⟩=_:=G.o.cell (a 1 _ rfl);clear r a;obtain⟨D,T⟩:∃D,l[i].deep=D:=⟨_,rfl⟩;rw[T]at d1;have U:=jd T;clear T;go_upto_region 5 with fail;go_loopw[5](fun x w9=>∃(k m:Nat),i<k/\k<=l.length/\x=.int .i64 (k:Int)/\(∀j(t:j<l.length),i<j->j<k->D<l[j].deep)/\w9=wr.drewN m)(fun x _=>l.length-(intOf x).toNat);case atStart=>exact⟨i+1,0,by omega,by omega,by go_num,fun j t e s=>by omega,rfl⟩
  case round=>
   obtain⟨k,m,u,z,rfl,d,rfl⟩:=hrel;by_cases J:k<l.length
   .obtain⟨g2,o2,cs,V,r,a⟩:=N.o.at_ J;injection V with V;injection V with X Y;subst X Y;obtain⟨A2,c2,rfl⟩:=r.cells;have d2:wr.cell? ⟨B,o1+k*7+1,none⟩=_:=G.o.cell (a 1 _ rfl);clear r a;obtain⟨E,Z⟩:∃E,l[k].deep=E:=⟨_,rfl⟩;rw[Z]at d2;have HE:=jd Z;have HA:=jd d;clear Z d;have e1:decide ((k:Int)<(l.length:Int))=true:=by simp;omega
    have e2:decide (k<l.length)=true:=by simp;omega
    have b1:(k:Int)<(l.length:Int):=by omega
    have b2:(i:Int)<(l.length:Int):=by omega
    have b3:(0:Int)<=(k:Int):=by omega
    have b4:(0:Int)<=(i:Int):=by omega
    by_cases L:D<E
    .have e3:decide (D<E)=true:=by simp;omega
     go_upto_region 5 with fail;go_quiet(fail);go_wp2_with fail;go_roundw;case rel=>
      exact⟨k+1,_,by omega,by omega,by go_num,fun j t e s=>(by
       rcases fC j k with h|h
       .exact HA.o j t e h
       .obtain rfl:j=k:=by omega
        rw[HE.o];exact L),rfl⟩
     case measure=>simp[intOf];omega
    have e3:decide (D<E)=false:=by simp;omega
    have C:=jd (PG.ED (l:=l) u z (fun j t e s=>by rw[U.o];exact HA.o j t e s) (fun t h=>L (by rw[U.o,HE.o]at h;exact h)));go_upto_region 5 with fail;go_quiet(fail);have hB:w.heap.size<=(wr.drewN m).heap.size:=I;have M:=jd (aT.ab7 N.o u z);rw[show iD (some ⟨B,o1,none⟩) c i 7=some ⟨B,o1+i*7,none⟩from KY (by omega)]at M;have F:f.length<=1000000000:=by omega
    go_wp2_with(at_builtin;refine EC Tryz.underlying168 vD rfl (by decide) (by decide) (EF w []) (by simp) rfl _ _ rfl w.heap.size _ f ((l.drop i).take (k-i)) [.slice (some ⟨B,o1+i*7,none⟩) (k-i) (c-i)] 99 H.o ⟨_,rfl,M.o⟩ rfl (by simp[Value.oneCell']) rfl wr.heap.size rfl rfl F hB ?_;intro gg cap w5 e s;have HF:=jd e;have rT:=jd (((G.o.drewN _).alloc _).grown s (fun b hb=>(H.o.lt b hb).1));clear e s);go_roundw;case rel=>exact⟨k,f++[(l.drop i).take (k-i)],by omega,rfl,by simp;omega,by omega,rT.o,HF.o,by rw[lL,List.singleton_append,<-C.o];exact R.o⟩
    case measure=>simp[intOf];omega
   .have e1:decide ((k:Int)<(l.length:Int))=false:=by simp;omega
    have e2:decide (k<l.length)=false:=by simp;omega
    have C:=jd (PG.ED (l:=l) u z (fun j t e s=>by rw[U.o];exact d j t e s) (fun t h=>J t));clear d;go_upto_region 5 with fail;go_quiet(fail);have hB:w.heap.size<=(wr.drewN m).heap.size:=I;have M:=jd (aT.ab7 N.o u z);rw[show iD (some ⟨B,o1,none⟩) c i 7=some ⟨B,o1+i*7,none⟩from KY (by omega)]at M;have F:f.length<=1000000000:=by omega
    go_wp2_with(at_builtin;refine EC Tryz.underlying168 vD rfl (by decide) (by decide) (EF w []) (by simp) rfl _ _ rfl w.heap.size _ f ((l.drop i).take (k-i)) [.slice (some ⟨B,o1+i*7,none⟩) (k-i) (c-i)] 99 H.o ⟨_,rfl,M.o⟩ rfl (by simp[Value.oneCell']) rfl wr.heap.size rfl rfl F hB ?_;intro gg cap w5 e s;have HF:=jd e;have rT:=jd (((G.o.drewN _).alloc _).grown s (fun b hb=>(H.o.lt b hb).1));clear e s);go_roundw;case rel=>exact⟨k,f++[(l.drop i).take (k-i)],by omega,rfl,by simp;omega,by omega,rT.o,HF.o,by rw[lL,List.singleton_append,<-C.o];exact R.o⟩
    case measure=>simp[intOf];omega
theorem U7{α:Type}{P:Program}{w:World}{f:Array Oper}{rest:List Oper}{o:Oper}{a:Act}{Q:Exit->Act->World->Prop}{t e sz bytes:Nat}{z:Value}(L:P.underlying t=some (.slice e))(M:(P.info? e).map (fun i=>(i.zero,i.size,i.bytes))=some (some z,sz,bytes))(m:z.cells.size=sz)(p:0<sz)(r:bytes<=100){T:List TypeId}{C:World->List Value->α->Prop}(N:fO T C)(O:e∉T)(A:o.guard=none)(s x:Operand)(R:o.op=.call {callee:=.builtin .append,args:=#[s,x],argTypes:=#[t,t]})(B:Nat)(v:Value)(xs:List α)(y:α)(cs:List Value)(tb:TypeId)(k:ay e sz C B w v xs)(S:C w cs y)(D:cs.length=sz)(U:∀u∈cs,u.oneCell'=true)(V:a.eval s=v)(nb:Nat)(X:a.eval x=.slice (some ⟨nb,0,none⟩) 1 1)(E:nb=w.heap.size)(hn:xs.length<=1000000000)(hB:B<=w.heap.size)(h:∀g d w',ay e sz C B w' (.slice (some ⟨g,0,none⟩) (xs.length+1) d) (xs++[y])->(w.alloc (.cells cs.toArray tb)).grownBy w' v.ownBlock->(v.ownBlock=some g\/g=w.heap.size+1)->wpList P f Q rest (a.put o.dst (.slice (some ⟨g,0,none⟩) (xs.length+1) d)) w'):wpList P f Q (o::rest) a (w.alloc (.cells cs.toArray tb)):=by subst E;obtain⟨Y,hi,F,G,H⟩:=fD M;obtain⟨flat,I,Z⟩:=k;refine wpList_append_lies _ A s x t R B e Y z sz bytes L hi F G H m p v xs.length flat V (World.ownsRow.alloc I _) ⟨w.heap.size,0,none⟩ 1 1 cs X (by omega) (fun j u hu=>jB w cs tb j u hu) U (by decide) (by unfold maxLen;omega) (aG (yC (show xs.length+1<=1000000001 by omega) r) (by omega)) (by simp;omega) (w.heap.size+1) (by simp) ?_;intro g d w' h3 K h5 _;refine h g d w' (ay.snoc Z I.1 N ?_ S D h3) K h5;refine(au ((aa w).alloc _)).trans (kF K (fun g hg=>?_));obtain⟨J,hh⟩:=jw I g hg;exact⟨J,e,((aa w).alloc _).heap hh,O⟩
abbrev Nx(w:World)(v:Value):Nat->Prop:=fun b=>w.heap.size<=b/\v.ownBlock≠some b
theorem Tm.keep{S a:Nat->Prop}{w w':World}{cs:List Value}{p:PG.Part}(h:Tm S w cs p)(d:GX S a w w')(e:lS a w'):Tm a w' cs p:=by obtain⟨A,c,f,i⟩:=h;exact⟨A,c,f,e,i.2.keep d⟩
structure FU(w:World)(rb tb:Nat)(tc:Array Value)(vl:Value)(ps:List PG.Part)(wr:World):Prop where
 ext:Ext w wr
 lo:w.heap.size<=rb
 lt:rb<tb
 res:wr.heap[rb]?=some (.cells #[.slice none 0 0,.int .i64 0] 150 (0,0))
 top:wr.heap[tb]?=some (.cells tc 126 (0,0))
 own:ay 150 2 (Pc (Nx w vl) wr) (tb+1) wr vl ps
section
variable{w wr w':World}{rb tb:Nat}{tc:Array Value}{vl:Value}{ps:List PG.Part}
theorem FU.aj(h:FU w rb tb tc vl ps wr)(a:Ext wr w'):FU w rb tb tc vl ps w':=⟨h.ext.trans a,h.lo,h.lt,a.heap h.res,a.heap h.top,h.own.G5 (fun _ _ d=>d.ext a) (fun _ _ _ e=>a.heap e)⟩
theorem FU.Ha(h:FU w rb tb tc vl ps wr):lS (Nx w vl) wr:=fun b a=>⟨aG h.ext.size a,fun e=>by have:=(h.own.lt b e).2;omega⟩
theorem FU.cell(h:FU w rb tb tc vl ps wr){j:Nat}{u:Value}(a:tc[j]?=some u):wr.cell? ⟨tb,j,none⟩=some u:=(cy j h.top).trans a
theorem FU.r0(h:FU w rb tb tc vl ps wr):wr.cell? ⟨rb,0,none⟩=some (.slice none 0 0):=cy 0 h.res
theorem FU.r1(h:FU w rb tb tc vl ps wr):wr.cell? ⟨rb,1,none⟩=some (.int .i64 0):=cy 1 h.res
theorem FU.fr(h:FU w rb tb tc vl ps wr)(o:Nat):wr.frozen? ⟨rb,o,none⟩=false:=fq o h.res
theorem FU.slp(h:FU w rb tb tc vl ps wr):Dg (Nx w vl) wr vl ps:=h.own.slp (aa _) h.Ha
theorem FU.part(h:FU w rb tb tc vl ps wr){v:Value}{l:List PG.aD}(a:lT (Nw wr) w' v l):lT (Nx w vl) w' v l:=a.new h.Ha
theorem FU.app{cs:List Value}{t:TypeId}{i:List PG.Part}{g n c:Nat}(h:FU w rb tb tc vl ps wr)(A:ay 150 2 (Pc (Nx w vl) wr) (tb+1) w' (.slice (some ⟨g,0,none⟩) n c) i)(B:(wr.alloc (.cells cs.toArray t)).grownBy w' vl.ownBlock)(p:vl.ownBlock=some g\/g=wr.heap.size+1):FU w rb tb tc (.slice (some ⟨g,0,none⟩) n c) i w':=by
 have f:=fun k j=>h.own.lt k j;have s:=h.lo;have v:=h.lt;have C:=((h.ext.alloc (.cells cs.toArray t)).grown B (fun k j=>by have:=(f k j).1;omega));have D:g<w'.heap.size:=(A.lt g rfl).2;have E:lS (Nx w (.slice (some ⟨g,0,none⟩) n c)) w':=fun b d=>⟨aG C.size d,fun e=>by injection e with e;have e:g=b:=e;omega⟩;have a:∀b,b<wr.heap.size->vl.ownBlock≠some b->w'.heap[b]?=wr.heap[b]?:=fun b d F=>
  (B.block b (mJ d (by simp)) (fun e=>F e.symm)).trans (by have m:wr.heap[b]?=some (wr.heap[b]):=Array.getElem?_eq_getElem d;rw[m];exact((aa wr).alloc _).heap m);have j:GX (Nx w vl) (Nx w (.slice (some ⟨g,0,none⟩) n c)) wr w':=by
  intro b o u z r;have d:=iP wr ⟨b,o,none⟩ r;refine⟨⟨z.1,fun e=>?_⟩,(ru (a b d z.2)).trans r⟩;injection e with e;rcases p with p|p
  .exact z.2 (p.trans (congrArg some e))
  .have d:b<wr.heap.size:=d;have e:g=b:=e;omega
 refine⟨C,s,v,(a rb (ag h.res) (fun e=>by have:=(f rb e).1;omega)).trans h.res,(a tb (ag h.top) (fun e=>by have:=(f tb e).1;omega)).trans h.top,A.G5 (fun _ _ r=>Tm.keep r j E) (fun _ _ _ G=>G)⟩
end
theorem Dg.head{S:Nat->Prop}{w:World}{v:Value}{p:PG.Part}{e:List PG.Part}(h:Dg S w v (p::e)):∃g o c A a,v=.slice (some ⟨g,o,none⟩) (e.length+1) c/\w.cell? ⟨g,o,none⟩=some (.slice A p.l.length a)/\w.cell? ⟨g,o+1,none⟩=some (.int .i64 (p.n:Int))/\lT S w (.slice A p.l.length a) p.l:=by obtain⟨A,c,rfl,-,-⟩:=h.form;obtain⟨g,o,m,rfl,⟨B,b,rfl,j⟩,d⟩:=h.atP (k:=0) (by simp);have f:=d 0 _ rfl;have i:=d 1 _ rfl;simp only[Nat.zero_mul,fB]at f i;exact⟨g,o,c,B,b,rfl,f,i,j⟩
theorem U8{w:World}{m:Array Oper}{o:Oper}{a:Act}{K:Act->World->Prop}{Q:Exit->Act->World->Prop}{E:Prop}(p:o.guard=none)(s x:Operand)(M:o.op=.call {callee:=.builtin .append,args:=#[s,x],argTypes:=#[24,24]})(r:Addr)(set:List Int)(c:Nat)(N:∀j y,set[j]?=some y->w.cell? (r.add j)=some (.int .i32 y))(f:0<set.length)(hm:set.length<=1000000)(O:a.eval s=.slice none 0 0)(P:a.eval x=.slice (some r) set.length c)(h:∀g d w',(∀S,lS S w->wQ S w' (.slice (some ⟨g,0,none⟩) set.length d) set)->Ext w w'->K (a.put o.dst (.slice (some ⟨g,0,none⟩) set.length d)) w'):if Region.wanted o (yielded m a.tmps)=true then Oper.wp Tryz.prog o a w K Q else E:=by
 obtain⟨R,hi,t,v,z⟩:=fD gQ;refine step_append_lies _ p s x 24 M w.heap.size 21 R (.int .i32 0) 1 4 eT hi t v z rfl (by decide) (.slice none 0 0) 0 [] O ⟨by simp,.inl ⟨rfl,rfl⟩⟩ r set.length c (set.map (Value.int .i32)) P (by simp) (eG N)
  (fun u T=>by obtain⟨y,_,rfl⟩:=xu.1 T;rfl) f (by unfold maxLen;omega) (by omega) (az _) _ rfl ?_;intro g d w' G U _ _;rw[Nat.zero_add]at G⊢;refine h g d w' (fun S V=>?_) ((aa w).grown U (fun k H=>by cases H));obtain⟨_,A⟩:=G;rcases A with⟨A,_⟩|⟨g',I,i,X,Y,Z,B,C,hsz,D⟩
 .cases A
 injection X with e _ F;injection e with e;injection e with e;subst e F;refine⟨_,d,rfl,B,by unfold maxLen at C;omega,fun k y J=>⟨g,0,rfl,V g Y,?_⟩,by intro h;cases h⟩;obtain⟨H,hky⟩:=dh.1 J;rw[cell_of_row w' g _ i _ (0,0) Z];have L:(i.toList.take (set.length*1))[k]?=some (.int .i32 y):=by rw[D,BA,List.getElem?_map,J];rfl
 rw[pY,av (by omega)]at L;simpa using L
end Go.Proofs.YtcogknbbbjnaiaaGreatDoor
