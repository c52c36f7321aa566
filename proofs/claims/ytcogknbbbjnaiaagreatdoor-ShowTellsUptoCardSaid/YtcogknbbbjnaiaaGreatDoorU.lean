/- For ShowTells: what the texts XShK XShG XShH XShS XShT XRbE XRbF of wip/tpl say. -/
import Derived.Test.YtcogknbbbjnaiaaGreatDoorT
import Derived.Maps.AppendAt
set_option maxRecDepth 100000
set_option maxHeartbeats 4000000
namespace Go.Proofs.YtcogknbbbjnaiaaGreatDoor
open Go.RowKit
theorem Sz{a b:World}(h:Ext a b)(row:Option Nat):a.grownBy b row:=⟨Below.os h,Below.tape h,Below.output h,Below.size h,fun k d _=>Below.block h k d⟩
structure Ax(w0 ws:World)(vs v:Value)(out:List Int)(wr:World):Prop where
 bX:iT w0 v out wr
 VX:ws.grownBy wr vs.ownBlock
 own:∀g,v.ownBlock=some g->vs.ownBlock=some g\/ws.heap.size<=g
 typ:∀g,vs.ownBlock=some g->∃cur,ws.heap[g]?=some (.cells cur 21 (0,0))
def Sv(w0:World)(out:List Int)(ws:World)(vs:Value)(e:Ending)(w':World):Prop:=∃A c,e=.returned (.slice A out.length c)/\Ax w0 ws vs (.slice A out.length c) out w'
section
variable{w0 ws wr w':World}{vs v v':Value}{out out':List Int}
theorem Ax.of(h:iT w0 v out wr):Ax w0 wr v v out wr:=⟨h,sV _ _,fun _ a=>.inl a,fun g a=>h.own.type g a⟩
theorem Ax.mP(h:Ax w0 ws vs v out wr)(k:Ax w0 wr v v' out' w'):Ax w0 ws vs v' out' w':=by
 have i:=h.VX.size;refine⟨k.bX,⟨k.VX.os.trans h.VX.os,k.VX.tape.trans h.VX.tape,k.VX.output.trans h.VX.output,aG i k.VX.size,fun g d f=>?_⟩,fun g d=>?_,h.typ⟩
 .refine(k.VX.block g (by omega) fun e=>?_).trans (h.VX.block g d f);rcases h.own g e.symm with a|a
  .exact f a.symm
  .omega
 .rcases k.own g d with a|a
  .exact h.own g a
  .right;omega
theorem Ax.aj(h:Ax w0 ws vs v out wr)(d:Ext wr w'):Ax w0 ws vs v out w':=h.mP ⟨h.bX.call d,Sz d _,fun _ a=>.inl a,fun g a=>h.bX.own.type g a⟩
theorem Ax.ext(h:Ax w0 ws vs v out wr):Ext w0 wr:=h.bX.ext
theorem Ax.base(h:Ax w0 ws vs v out wr):Ax w0 wr v v out wr:=.of h.bX
theorem Ax.app(h:Ax w0 ws vs v out wr)(f:ay 21 1 Cc w0.heap.size w' v' out')(e:wr.grownBy w' v.ownBlock)(d:v'.ownBlock=v.ownBlock\/v'.ownBlock=some wr.heap.size):Ax w0 ws vs v' out' w':=h.mP ⟨h.bX.app f e,e,fun g a=>by
 rcases d with d|d
 .exact .inl (d.symm.trans a)
 .rw[d]at a;injection a with a;exact .inr (by omega),fun g a=>h.bX.own.type g a⟩
theorem Ax.keep(h:Ax w0 ws vs v out wr){g:Nat}{o:Obj}(a:ws.heap[g]?=some o)(d:vs.ownBlock≠some g):wr.heap[g]?=some o:=(h.VX.block g (ag a) fun e=>d e.symm).trans a
theorem Ax.box{nb:Nat}{cs:Array Value}{t:TypeId}(h:Ax w0 ws vs v out wr)(d:ws.heap[nb]?=some (.cells cs t (0,0)))(f:t≠21):wr.heap[nb]?=some (.cells cs t (0,0)):=h.keep d fun e=>by obtain⟨i,a⟩:=h.typ nb e;rw[d]at a;injection a with a;injection a with _ a _;exact f a
section
variable{ops:Array Oper}{rest:List Oper}{o:Oper}{a:Act}{Q:Exit->Act->World->Prop}
theorem Ax.lit(f:o.guard=none)(s x:Operand)(C:o.op=.call {callee:=.builtin .append,args:=#[s,x],argTypes:=#[24,24]})(h:Ax w0 ws vs v out wr)(ys:List Int)(D:a.eval s=v)(z m:Nat)(E:a.eval x=.slice (some ⟨z,0,none⟩) m m)(i:z=wr.heap.size)(F:m=ys.length)(j:0<m)(J:out.length+m<=35184372088832)(G:∀(d:List Int)g c w',Hd (out++ys=d)->d.length<=out.length+m->Hd (Ax w0 ws vs (.slice (some ⟨g,0,none⟩) d.length c) d w')->wpList Tryz.prog ops Q rest (a.put o.dst (.slice (some ⟨g,0,none⟩) d.length c)) w'):wpList Tryz.prog ops Q (o::rest) a (wr.alloc (.cells (ys.map (Value.int .i32)).toArray 21)):=by
 subst F i;obtain⟨H,hi,k,p,r⟩:=fD gQ;have t:=h.aj ((aa wr).alloc (.cells (ys.map (Value.int .i32)).toArray 21));refine wpList_append_lies _ f s x _ C w0.heap.size 21 H (.int .i32 0) 1 4 eT hi k p r rfl (by decide) v out.length _ D t.bX.own.dM ⟨wr.heap.size,0,none⟩ ys.length _ (ys.map (Value.int .i32)) E (by simp) (eG (bI (aB wr _))) (fun u A=>by simp at A;obtain⟨y,_,rfl⟩:=A;rfl) j (by unfold maxLen;omega) (by omega) t.bX.ext.size _ rfl ?_;intro g w w' B I e _;rw[show out.length+ys.length=(out++ys).length from(ai).symm]at B⊢;refine G (out++ys) g w w' rfl (by rw[ai];exact az _) (t.app (mI ?_) I ?_)
 .rw[jS];exact B
 .rcases e with e|e
  .exact .inl e.symm
  .exact .inr (by rw[e];rfl)
theorem Ax.step{K:Act->World->Prop}{E:Prop}(f:o.guard=none)(s x:Operand)(B:o.op=.call {callee:=.builtin .append,args:=#[s,x],argTypes:=#[24,24]})(h:Ax w0 ws vs v out wr)(ys:List Int)(C:a.eval s=v)(i m c:Nat)(D:a.eval x=.slice (some ⟨i,0,none⟩) m c)(F:m=ys.length)(k:0<m)(G:∀j y,ys[j]?=some y->wr.cell? ((⟨i,0,none⟩:Addr).add j)=some (.int .i32 y))(L:out.length+m<=35184372088832)(H:∀(d:List Int)g c w',Hd (out++ys=d)->d.length<=out.length+m->Hd (Ax w0 ws vs (.slice (some ⟨g,0,none⟩) d.length c) d w')->K (a.put o.dst (.slice (some ⟨g,0,none⟩) d.length c)) w'):if Region.wanted o (yielded ops a.tmps)=true then Oper.wp Tryz.prog o a wr K Q else E:=by
 subst F;obtain⟨I,hi,p,r,t⟩:=fD gQ;refine step_append_lies _ f s x _ B w0.heap.size 21 I (.int .i32 0) 1 4 eT hi p r t rfl (by decide) v out.length _ C h.bX.own.dM ⟨i,0,none⟩ ys.length c (ys.map (Value.int .i32)) D (by simp) (eG G) (fun u z=>by simp at z;obtain⟨y,_,rfl⟩:=z;rfl) k (by unfold maxLen;omega) (by omega) h.bX.ext.size _ rfl ?_;intro g w w' A J e _;rw[show out.length+ys.length=(out++ys).length from(ai).symm]at A⊢;refine H (out++ys) g w w' rfl (by rw[ai];exact az _) (h.app (mI ?_) J ?_)
 .rw[jS];exact A
 .rcases e with e|e
  .exact .inl e.symm
  .exact .inr (by rw[e];rfl)
theorem ib.aaK{w:World}{A:Option Addr}{n c:Nat}{xs:List Int}(h:ib w (.slice A n c) xs):(A=none/\xs=[]/\c=0)\/∃f,A=some f/\∀j y,xs[j]?=some y->w.cell? (f.add j)=some (.int .i32 y):=by
 cases A with
 |none=>
  obtain⟨B,C,i,-,-,k,m⟩:=h;injection i with p D s;subst p s;refine .inl ⟨rfl,?_,m rfl⟩;cases xs with
  |nil=>rfl
  |cons y r=>obtain⟨b,o,d,-⟩:=k 0 y rfl;cases d
 |some f=>
  refine .inr ⟨f,rfl,fun j y t=>?_⟩;obtain⟨u,rfl⟩:=dh.1 t;obtain⟨b,o,d,z⟩:=h.at_ u;injection d with d;subst d;have e:(⟨b,o,none⟩:Addr).add j=⟨b,o+j,none⟩:=by unfold Addr.add;split<;>simp_all
  rw[e];exact z
theorem Ax.row(f:o.guard=none)(s x:Operand)(r:o.op=.call {callee:=.builtin .append,args:=#[s,x],argTypes:=#[24,24]})(h:Ax w0 ws vs v out wr)(i:Value)(ys:List Int)(d:ib wr i ys)(t:a.eval s=v)(w:a.eval x=i)(J:out.length+ys.length<=35184372088832)(E:∀(j:List Int)A c w',Hd (out++ys=j)->j.length<=out.length+ys.length->Hd (Ax w0 ws vs (.slice A j.length c) j w')->wpList Tryz.prog ops Q rest (a.put o.dst (.slice A j.length c)) w'):wpList Tryz.prog ops Q (o::rest) a wr:=by
 have z:∀v' w',Ax w0 ws vs v' (out++ys) w'->wpList Tryz.prog ops Q rest (a.put o.dst v') w':=fun v' w' B=>by obtain⟨A,c,rfl,-⟩:=B.bX.own.form;exact E (out++ys) A c w' rfl (by rw[ai];exact az _) B
 obtain⟨C,hi,k,m,p⟩:=fD gQ;obtain⟨A,c,rfl,K,L,-,-⟩:=id d;rcases d.aaK with⟨rfl,rfl,rfl⟩|⟨F,rfl,e⟩
 .refine Bw f s x 24 r w0.heap.size 21 C 1 eT hi v out.length (out.map (Value.int .i32)) t h.bX.own.dM w ?_;exact z v wr (by rw[iU];exact h)
 .refine wpList_append_own_at wr f s x _ r w0.heap.size 21 C (.int .i32 0) 1 4 eT hi k m p rfl (by decide) v out.length _ t h.bX.own.dM F ys.length c (ys.map (Value.int .i32)) w (by simp) (eG e) (fun u D=>by simp at D;obtain⟨y,_,rfl⟩:=D;rfl) (by unfold maxLen;omega) (by omega) h.bX.ext.size ?_;intro v' w' G H _ I;exact z v' w' (h.app (mI (by rw[jS,ai];exact G)) H I)
end
structure ji(w0 ws:World)(vs:Value)(nb:Nat)(cs:List Value)(v:Value)(out:List Int)(wr:World):Prop where
 ax:Ax w0 ws vs v out wr
 box:wr.heap[nb]?=some (.cells cs.toArray 28 (0,0))
variable{nb:Nat}{cs:List Value}
theorem ji.aj(h:ji w0 ws vs nb cs v out wr)(a:Ext wr w'):ji w0 ws vs nb cs v out w':=⟨h.ax.aj a,a.heap h.box⟩
theorem ji.mP(h:ji w0 ws vs nb cs v out wr)(k:Ax w0 wr v v' out' w'):ji w0 ws vs nb cs v' out' w':=⟨h.ax.mP k,k.box h.box (by decide)⟩
theorem ji.c(h:ji w0 ws vs nb cs v out wr)(i:Nat)(u:Value)(a:cs[i]?=some u):wr.cell? ⟨nb,i,none⟩=some u:=(cy i h.box).trans (by simpa using a)
theorem ji.lt(h:ji w0 ws vs nb cs v out wr):nb<wr.heap.size:=ag h.box
variable{ops:Array Oper}{rest:List Oper}{o:Oper}{a:Act}{Q:Exit->Act->World->Prop}
theorem ji.lit(e:o.guard=none)(s x:Operand)(k:o.op=.call {callee:=.builtin .append,args:=#[s,x],argTypes:=#[24,24]})(h:ji w0 ws vs nb cs v out wr)(ys:List Int)(p:a.eval s=v)(f m:Nat)(r:a.eval x=.slice (some ⟨f,0,none⟩) m m)(i:f=wr.heap.size)(t:m=ys.length)(j:0<m)(u:out.length+m<=35184372088832)(w:∀(d:List Int)g c w',Hd (out++ys=d)->d.length<=out.length+m->Hd (ji w0 ws vs nb cs (.slice (some ⟨g,0,none⟩) d.length c) d w')->wpList Tryz.prog ops Q rest (a.put o.dst (.slice (some ⟨g,0,none⟩) d.length c)) w'):wpList Tryz.prog ops Q (o::rest) a (wr.alloc (.cells (ys.map (Value.int .i32)).toArray 21)):=h.ax.base.lit e s x k ys p f m r i t j u fun d A c w' z B C=>w d A c w' z B (h.mP C.o)
abbrev iL:=@ji.lit
theorem ji.row(i:o.guard=none)(s x:Operand)(j:o.op=.call {callee:=.builtin .append,args:=#[s,x],argTypes:=#[24,24]})(h:ji w0 ws vs nb cs v out wr)(d:Value)(ys:List Int)(f:ib wr d ys)(k:a.eval s=v)(m:a.eval x=d)(p:out.length+ys.length<=35184372088832)(r:∀(e:List Int)A c w',Hd (out++ys=e)->e.length<=out.length+ys.length->Hd (ji w0 ws vs nb cs (.slice A e.length c) e w')->wpList Tryz.prog ops Q rest (a.put o.dst (.slice A e.length c)) w'):wpList Tryz.prog ops Q (o::rest) a wr:=h.ax.base.row i s x j d ys f k m p fun e A c w' t u w=>r e A c w' t u (h.mP w.o)
theorem ji.step{K:Act->World->Prop}{E:Prop}(e:o.guard=none)(s x:Operand)(k:o.op=.call {callee:=.builtin .append,args:=#[s,x],argTypes:=#[24,24]})(h:ji w0 ws vs nb cs v out wr)(ys:List Int)(p:a.eval s=v)(f m c:Nat)(r:a.eval x=.slice (some ⟨f,0,none⟩) m c)(t:m=ys.length)(i:0<m)(u:∀j y,ys[j]?=some y->wr.cell? ((⟨f,0,none⟩:Addr).add j)=some (.int .i32 y))(w:out.length+m<=35184372088832)(z:∀(d:List Int)g c w',Hd (out++ys=d)->d.length<=out.length+m->Hd (ji w0 ws vs nb cs (.slice (some ⟨g,0,none⟩) d.length c) d w')->K (a.put o.dst (.slice (some ⟨g,0,none⟩) d.length c)) w'):if Region.wanted o (yielded ops a.tmps)=true then Oper.wp Tryz.prog o a wr K Q else E:=h.ax.base.step e s x k ys p f m c r t i u w fun d g c w' A B C=>z d g c w' A B (h.mP C.o)
end
theorem Hy(bs:ByteArray)(d:List Int)(p:Conv.runesFrom bs bs.size 0 #[]=(d.map (Value.int .i32)).toArray)(u:d.length<=100)(w:World):∃g a j,(convert 9 24 (.string bs)).run Tryz.prog w=.ok (.slice (some ⟨g,0,none⟩) d.length a) j/\Hd (Ext w j)/\Hd (ib j (.slice (some ⟨g,0,none⟩) d.length a) d):=by
 have e:(Conv.runesFrom bs bs.size 0 #[]).size=d.length:=by rw[p];simp
 have m:=run_runes_of_string (P:=Tryz.prog) w 9 24 21 bs Tryz.underlying9 eT Tryz.underlying21 (by rw[e];omega);rw[e,p]at m;have f:=grownCap_ge w d.length 0 21;have i:=grownCap_le_maxLen w d.length 0 21 (by unfold maxLen;omega);unfold maxLen at i;generalize grownCap w d.length 0 21=a at m f i;refine⟨_,a,_,m,((aa w).drew).alloc _,⟨_,a,rfl,by omega,by omega,fun k x r=>⟨_,0,rfl,?_⟩,by intro h;cases h⟩⟩;have s:k<d.length:=(dh.1 r).1;have t:=oJ w.drew ((d.map (Value.int .i32)).toArray++Array.replicate (a-d.length) (.int .i32 0)) 21 (0+k*1);refine t.trans ?_;rw[sU,Nat.zero_add,Array.getElem?_append_left (by simpa using s)];simp[r]
theorem Jv.at1{w:World}{A:Option Addr}{n c:Nat}{l:List (List Int)}(h:Jv w (.slice A n c) l){k:Nat}(i:k<l.length):∃b o a d,A=some ⟨b,o,none⟩/\w.cell? ⟨b,o+k,none⟩=some (.slice a l[k].length d)/\ib w (.slice a l[k].length d) l[k]:=by obtain⟨b,o,j,u,e,f⟩:=nz.at_ h (aU i);rw[sU]at e;obtain⟨a,d,rfl,-⟩:=id f;exact⟨b,o,a,d,j,e,f⟩
theorem Jv.kQ{w:World}{v:Value}{l:List (List Int)}(h:Jv w v l):∃A c,v=.slice A l.length c/\l.length<=c/\c<=9223372036854775807:=by obtain⟨A,c,a,d,e,-⟩:=h;exact⟨A,c,a,d,e⟩
theorem sO(m:List Int)(bs:ByteArray)(G:Conv.runesFrom bs bs.size 0 #[]=(m.map (Value.int .i32)).toArray)(I:m.length<=100)(w0 wr:World)(v J:Value)(a s:List Int)(h:iT w0 v a wr)(K:ib w0 J s)(hb:a.length+2*s.length<=35184372088000):Calls Tryz.prog 37 #[v,J,.string bs] wr (Sv w0 (a++FM.guard m s) wr v):=by
 have H:=jd K;have T:=jd (Ax.of h);have U:=jd (Hy bs m G I);obtain⟨A,ca,rfl,V,X,-⟩:=K;obtain⟨Y,Z,rfl,-⟩:=h.own.form;clear h G I;go_enter Tryz.func37,Tryz.ntmps37;go_wp2_with fail;go_loopw[0,11](fun v i wk=>∃k:Nat,k<=s.length/\i=.int .i64 (k:Int)/\Ax w0 wr (.slice Y a.length Z) v (a++FM.guard m (s.take k)) wk)(fun _ i _=>s.length-(intOf i).toNat);case atStart=>exact⟨0,aL _,rfl,by simpa[FM.guard]using T.o⟩
 case round=>
  obtain⟨k,hk,rfl,f⟩:=hrel;have j:=jd f;have e:(a++FM.guard m (s.take k)).length<=35184372088000:=by have:=kK m (s.take k);rw[kg]at this;rw[ai];omega
  obtain⟨Ak,ck,rfl,-⟩:=f.bX.own.form;clear f;by_cases u:k<s.length
  .obtain⟨b,o,rfl,L⟩:=(H.o.ext j.o.ext).at_ u;have d:=xU (m:=m) u;obtain⟨g,cap,M,N,O,P⟩:=U.o wr;by_cases t:s[k]∈m
   .have w:=jd (show decide (s[k]∈m)=true from bJ t);rw[av t]at d;have p:=jd (show a++FM.guard m (s.take (k+1))=((a++FM.guard m (s.take k))++[92])++[s[k]]by rw[d];simp);clear t d;generalize s[k]=x at L w p;generalize a++FM.guard m (s.take k)=z at j p e⊢;have r:=jd (j.o.aj O.o);have B:=jd (rV x _ m M P.o);have Q:True:=trivial;go_wp2_with(first|(go_at_call 50;refine B.o.mono ?_;rw[w.o];rintro e' R⟨rfl,rfl⟩;clear N)|(at_builtin;have _t:=Q;refine Ax.lit rfl _ _ rfl r.o [92] rfl _ 1 rfl rfl rfl (by decide) (by omega) ?_;intro o2 A2 c2 R gU hl2 C;clear Q _t)|(at_builtin;refine Ax.lit rfl _ _ rfl C.o [x] rfl _ 1 rfl rfl rfl (by decide) (by omega) ?_;intro o3 A3 c3 w3 D E F));go_roundw;case rel=>exact⟨k+1,by omega,by go_num,by rw[p.o,gU.o,D.o];exact F.o⟩
    case measure=>simp[intOf];omega
   .have w:=jd (show decide (s[k]∈m)=false from bR t);rw[ae t]at d;have p:=jd (show a++FM.guard m (s.take (k+1))=(a++FM.guard m (s.take k))++[s[k]]by rw[d];simp);clear t d;generalize s[k]=x at L w p;generalize a++FM.guard m (s.take k)=z at j p e⊢;have r:=jd (j.o.aj O.o);have B:=jd (rV x _ m M P.o);go_wp2_with(first|(go_at_call 50;refine B.o.mono ?_;rw[w.o];rintro e' R⟨rfl,rfl⟩;clear N)|(at_builtin;refine Ax.lit rfl _ _ rfl r.o [x] rfl _ 1 rfl rfl rfl (by decide) (by omega) ?_;intro o3 A3 c3 w3 D E F));go_roundw;case rel=>exact⟨k+1,by omega,by go_num,by rw[p.o,D.o];exact F.o⟩
    case measure=>simp[intOf];omega
  .have S:=jd (show a++FM.guard m (s.take k)=a++FM.guard m s by rw[pU (by omega)]);generalize a++FM.guard m (s.take k)=z at j S e⊢;go_wp2_with fail;go_ret;rw[<-S.o];exact⟨_,_,rfl,j.o⟩
theorem jJ(bs:ByteArray)(ys:List Int)(d:signs bs=ys)(i:∀x∈ys,x<128)(j:ys.length<=100)(w0 wr:World)(v:Value)(a:List Int)(h:iT w0 v a wr)(w:a.length<=35184372088000):Calls Tryz.prog 51 #[v,.string bs] wr (Sv w0 (a++ys) wr v):=by have k:=jd (Ax.of h);obtain⟨z,A,rfl,-⟩:=h.own.form;have e:=uF bs (by rw[d];exact i);rw[d]at e;obtain⟨g,m,B,p,r,s⟩:=Hy bs ys e j wr;clear h e i d;go_enter Tryz.func51,Tryz.ntmps51;go_wp2_with(at_builtin;refine Ax.row rfl _ _ rfl (k.o.aj r.o) _ ys s.o rfl rfl (by omega) ?_;intro C D c2 E t u f;clear p);go_ret;rw[t.o];exact⟨_,_,rfl,f.o⟩
theorem OD(w0 wr:World)(v L:Value)(a:List Int)(l:List (List Int))(h:iT w0 v a wr)(D:Jv w0 L l)(hb:a.length+2*SH.tot l<=35184372080000):Calls Tryz.prog 53 #[v,L] wr (Sv w0 (a++SH.dD l) wr v):=by
 have H:=jd D;have S:=jd (Ax.of h);obtain⟨A,ca,rfl,T,U⟩:=D.kQ;obtain⟨V,X,rfl,-⟩:=h.own.form;clear h D;go_enter Tryz.func53,Tryz.ntmps53;go_wp2_with fail;go_loopw[0,9](fun v i wk=>∃k:Nat,k<=l.length/\i=.int .i64 (k:Int)/\Ax w0 wr (.slice V a.length X) v (a++SH.dD (l.take k)) wk)(fun _ i _=>l.length-(intOf i).toNat);case atStart=>exact⟨0,aL _,rfl,by simpa[SH.dD]using S.o⟩
 case round=>
  obtain⟨k,hk,rfl,p⟩:=hrel;have m:=jd p;obtain⟨Ak,ck,rfl,-⟩:=p.bX.own.form;clear p;by_cases r:k<l.length
  .obtain⟨b,o,A1,c1,rfl,u,E⟩:=H.o.at1 r;have M:=m.o.ext.cell u;have F:=jd E;have G:=SH.Fq r;have f:(a++SH.dD (l.take k)).length+2*l[k].length+2<=35184372080000:=by rw[ai];omega
   have s:=jd (SH.Fs r);generalize l[k]=y at M E F s f;clear u E G;by_cases N:k=0
   .subst N;rw[fB]at M;have w:=jd (show a++SH.dD (l.take (0+1))=(a++SH.dD (l.take 0))++FM.guard SH.JE y by rw[s.o];simp);generalize a++SH.dD (l.take 0)=d at m w f⊢;have t:=jd (fun W v(I:iT w0 v d W)=>sO SH.JE {data:=#[44,124,92]} (by kernel_rfl) (by decide) w0 W v _ d y I F.o (by omega));go_wp2_with(go_at_call 37;refine(t.o _ _ m.o.bX).mono ?_;rintro e Y⟨Z,c2,rfl,O⟩;have j:=jd (m.o.mP O);clear O;generalize z:d++FM.guard SH.JE y=J at j⊢;have K:=jd z;clear z);go_roundw;case rel=>exact⟨1,by omega,by go_num,by rw[w.o,K.o];exact j.o⟩
    case measure=>simp[intOf];omega
   .have w:=jd (show a++SH.dD (l.take (k+1))=((a++SH.dD (l.take k))++[44])++FM.guard SH.JE y by rw[s.o,ae N];simp);generalize a++SH.dD (l.take k)=d at m w f⊢;have hk0:(0:Int)<k:=by omega
    have hk1:0<k:=by omega
    have t:=jd (fun W v d(B:d.length+2*y.length<=35184372088000)(I:iT w0 v d W)=>sO SH.JE {data:=#[44,124,92]} (by kernel_rfl) (by decide) w0 W v _ d y I F.o B);go_wp2_with(first|(at_builtin;refine Ax.lit rfl _ _ rfl m.o [44] rfl _ 1 rfl rfl rfl (by decide) (by omega) ?_;intro J Z c2 Y K B j)|(go_at_call 37;refine(t.o _ _ J (by omega) j.o.bX).mono ?_;rintro e w3⟨A3,c3,rfl,P⟩;have Q:=jd (j.o.mP P);clear P;generalize C:J++FM.guard SH.JE y=o3 at Q⊢;have gz:=jd C;clear C));go_roundw;case rel=>exact⟨k+1,by omega,by go_num,by rw[w.o,K.o,gz.o];exact Q.o⟩
    case measure=>simp[intOf];omega
  .have R:=jd (show a++SH.dD (l.take k)=a++SH.dD l by rw[pU (by omega)]);generalize a++SH.dD (l.take k)=d at m R⊢;go_wp2_with fail;go_ret;rw[<-R.o];exact⟨_,_,rfl,m.o⟩
theorem OE(w0 wr:World)(v S:Value)(a s:List Int)(h:iT w0 v a wr)(T:ib w0 S s)(hb:a.length+2*s.length<=35184372088000):Calls Tryz.prog 77 #[v,S] wr (Sv w0 (a++SH.ahead s) wr v):=by
 have H:=jd T;have X:=jd (Ax.of h);obtain⟨A,ca,rfl,Y,Z,-⟩:=T;obtain⟨Ao,co,rfl,-⟩:=h.own.form;clear h;go_enter Tryz.func77,Tryz.ntmps77;go_wp2_with fail;go_loopw[0,5](fun v i wk=>∃(k:Nat)(e:List Int),k<=s.length/\i=.int .i64 (k:Int)/\Ax w0 wr (.slice Ao a.length co) v e wk/\e++SH.ahead (s.drop k)=a++SH.ahead s/\e.length<=a.length+2*k)(fun _ i _=>s.length-(intOf i).toNat);case atStart=>exact⟨0,a,aL _,rfl,X.o,rfl,by omega⟩
 case round=>
  obtain⟨k,e,hk,rfl,u,U,hal⟩:=hrel;have E:=jd u;have L:=jd U;obtain⟨Ak,ck,rfl,-⟩:=u.bX.own.form;clear u U;by_cases p:k<s.length
  .obtain⟨b,o,rfl,F⟩:=(H.o.ext E.o.ext).at_ p;by_cases d:s[k]=47
   .have r:=jd (show(e++[92])++[47]++SH.ahead (s.drop (k+1))=a++SH.ahead s by rw[<-L.o,SH.Cg p d];simp);rw[d]at F;have G:=jd (H.o.at_ p);rw[d]at G;clear d;have I:True:=trivial;go_wp2_with(first|(at_builtin;have _t:=I;refine Ax.lit rfl _ _ rfl E.o [92] rfl _ 1 rfl rfl rfl (by decide) (by omega) ?_;intro o2 A2 c2 w2 M N j;obtain⟨b',o',w,m⟩:=G.o;injection w with w;injection w with O P _;subst O P;have F:=j.o.ext.cell m;clear I _t m)|(at_builtin;refine Ax.lit rfl _ _ rfl j.o [47] rfl _ 1 rfl rfl rfl (by decide) (by omega) ?_;intro z Q c3 R B C D));go_roundw;case rel=>exact⟨k+1,z,by omega,by go_num,D.o,by rw[<-B.o,<-M.o];exact r.o,by omega⟩
    case measure=>simp[intOf];omega
   .by_cases J:s[k]=92/\k+1<s.length
    .obtain⟨f,t⟩:=J;have r:=jd (show(e++[92])++[s[k+1]]++SH.ahead (s.drop (k+2))=a++SH.ahead s by rw[<-L.o,SH.Hz t f];simp);rw[f]at F;have K:(k:Int)+1<s.length:=by omega
     have G:=jd (H.o.at_ t);generalize s[k+1]=y at G r;clear f d;have I:True:=trivial;go_wp2_with(first|(at_builtin;have _t:=I;refine Ax.lit rfl _ _ rfl E.o [92] rfl _ 1 rfl rfl rfl (by decide) (by omega) ?_;intro o2 A2 c2 w2 M N j;obtain⟨b',o',w,m⟩:=G.o;injection w with w;injection w with O P _;subst O P;have F:=j.o.ext.cell m;clear I _t m)|(at_builtin;refine Ax.lit rfl _ _ rfl j.o [y] rfl _ 1 rfl rfl rfl (by decide) (by omega) ?_;intro z Q c3 R B C D));go_roundw;case rel=>exact⟨k+2,z,by omega,by go_num,D.o,by rw[<-B.o,<-M.o];exact r.o,by omega⟩
     case measure=>simp[intOf];omega
    .have r:=jd (show e++[s[k]]++SH.ahead (s.drop (k+1))=a++SH.ahead s by
      rw[<-L.o];by_cases f:s[k]=92
      .have:k+1=s.length:=by
        rcases fC (k+1) s.length with h|h
        .exact absurd ⟨f,h⟩ J
        .omega
       rw[SH.Fu this d,SH.vY (k:=k+1) (by omega)];simp
      .rw[SH.H5 p d f];simp);have V:(s[k]==47)=false:=by simpa using d
     by_cases f:s[k]=92
     .have K:¬(k:Int)+1<s.length:=by intro h;exact J ⟨f,by omega⟩
      rw[f]at F r;clear f d J V;go_wp2_with(at_builtin;refine Ax.lit rfl _ _ rfl E.o [92] rfl _ 1 rfl rfl rfl (by decide) (by omega) ?_;intro z Q c3 R B C D);go_roundw;case rel=>exact⟨k+1,z,by omega,by go_num,D.o,by rw[<-B.o];exact r.o,by omega⟩
      case measure=>simp[intOf];omega
     .have WV:(s[k]==92)=false:=by simpa using f
      clear f d J;generalize s[k]=y at F r V WV;go_wp2_with(at_builtin;refine Ax.lit rfl _ _ rfl E.o [y] rfl _ 1 rfl rfl rfl (by decide) (by omega) ?_;intro z Q c3 R B C D);go_roundw;case rel=>exact⟨k+1,z,by omega,by go_num,D.o,by rw[<-B.o];exact r.o,by omega⟩
      case measure=>simp[intOf];omega
  .have HT:=jd (show e=a++SH.ahead s by rw[<-L.o,SH.vY (by omega),iU]);go_wp2_with fail;go_ret;rw[<-HT.o];exact⟨_,_,rfl,E.o⟩
theorem OH(s:List Int)(v:Value)(w:World)(a:ib w v s):Calls Tryz.prog 85 #[v] w (lW (.bool (!SH.Bd s)) w):=by have H:=jd (yP s v w a);obtain⟨A,c,rfl,d,f,-⟩:=a;go_enter Tryz.func85,Tryz.ntmps85;go_wp2_with(refine H.o.mono ?_;rintro e h⟨rfl,n,rfl⟩);go_ret;exact⟨rfl,_,rfl⟩
def aej(l:List (List Int))(w:World)(e:Ending)(w':World):Prop:=∃n:Int,∃m:Nat,e=.returned (.int .i64 n)/\decide (0<=n)=!l.all SH.Bd/\w'=w.drewN m
theorem OI(s:List (List Int))(v:Value)(w:World)(r:Jv w v s):Calls Tryz.prog 101 #[v,.func (.func 85) #[] #[]] w (aej s w):=by
 obtain⟨A,c,rfl,D,E⟩:=r.kQ;have F:=jd r;clear r;go_enter Tryz.func101,Tryz.ntmps101;go_wp2_with fail;go_loopw[8](fun i wr=>∃k n:Nat,k<=s.length/\i=.int .i64 k/\wr=w.drewN n/\∀x∈s.take k,SH.Bd x=true)(fun i _=>s.length-(intOf i).toNat);case atStart=>exact⟨0,0,aL _,rfl,rfl,by simp⟩
 case round=>
  obtain⟨k,n,I,rfl,rfl,a⟩:=hrel;have z:=jd a;clear a;by_cases d:k<s.length
  .obtain⟨b,o,J,c1,rfl,G,B⟩:=F.o.at1 d;obtain⟨x,j⟩:∃x,s[k]=x:=⟨_,rfl⟩;have m:=jd (OH _ _ _ (B.ext ((aa w).drewN n)));rw[j]at G m;have C:=jd j;clear j B;rcases p:(!SH.Bd x)with _|_
   .rw[p]at m;go_wp2_with(go_at_call 85;refine m.o.mono ?_;rintro e H⟨rfl,t,rfl⟩);go_roundw;case rel=>
     refine⟨k+1,n+t,by omega,by go_num,by simp,fun y f=>?_⟩;rw[kE d]at f;rcases iN.1 f with f|f
     .exact z.o y f
     .simp at f;subst f;rw[C.o];simpa using p
    case measure=>simp[intOf];omega
   .rw[p]at m;have u:=jd (show decide ((0:Int)<=(k:Int))=!s.all SH.Bd by rw[bJ (by omega)];symm;rw[Bool.not_eq_true',Bool.eq_false_iff];intro h;have:=yO.1 h s[k] (bK d);rw[C.o]at this;rw[this]at p;cases p);go_wp2_with(go_at_call 85;refine m.o.mono ?_;rintro e H⟨rfl,t,rfl⟩);go_ret;exact⟨_,n+t,rfl,u.o,by simp⟩
  .have u:=jd (show decide ((0:Int)<=(-1:Int))=!s.all SH.Bd by rw[bR (by decide)];symm;rw[Bool.not_eq_false',yO];intro x j;exact z.o x (by rw[pU (by omega)];exact j));go_wp2_with fail;go_ret;exact⟨_,_,rfl,u.o,rfl⟩
theorem Gm(s:List (List Int))(v:Value)(w:World)(a:Jv w v s):Calls Tryz.prog 84 #[v,.func (.func 85) #[] #[]] w (lW (.bool (!s.all SH.Bd)) w):=by have H:=jd (OI s v w a);obtain⟨A,c,rfl,f,h⟩:=a.kQ;go_enter Tryz.func84,Tryz.ntmps84;go_wp2_with fail;refine H.o.mono ?_;rintro e j⟨n,m,rfl,d,rfl⟩;have i:=jd d;clear d;go_wp2_with fail;go_ret;exact⟨by rw[<-i.o];rfl,_,rfl⟩
def Fv(l:List (List Int)):Bool:=decide (0<l.length)&&decide (l.length<=20)&&l.all SH.Bd
theorem OJ(s:List (List Int))(v:Value)(w:World)(h:Jv w v s):Calls Tryz.prog 62 #[v] w (lW (.bool (Fv s)) w):=by
 have H:=jd (Gm s v w h);obtain⟨A,c,rfl,k,p⟩:=h.kQ;by_cases i:0<s.length
 .have d:(0:Int)<s.length:=by omega
  by_cases j:s.length<=20
  .have f:(s.length:Int)<=20:=by omega
   have a:=jd (show Fv s=s.all SH.Bd by simp[Fv,i,j]);go_enter Tryz.func62,Tryz.ntmps62;go_wp2_with(refine H.o.mono ?_;rintro e r⟨rfl,m,rfl⟩);go_ret;exact⟨aH (by rw[a.o];simp),_,rfl⟩
  .have f:¬(s.length:Int)<=20:=by omega
   have a:=jd (show Fv s=false by simp[Fv,j]);go_enter Tryz.func62,Tryz.ntmps62;go_wp2_with fail;go_ret;exact⟨aH (by rw[a.o];rfl),0,rfl⟩
 .have d:¬(0:Int)<s.length:=by omega
  have a:=jd (show Fv s=false by simp[Fv,i]);go_enter Tryz.func62,Tryz.ntmps62;go_wp2_with fail;go_ret;exact⟨aH (by rw[a.o];rfl),0,rfl⟩
def dK(k d n:Int)(vt vi vp vf:Value)(a f:Bool):Value:=.agg #[.int .i64 k,.int .i64 d,.int .i64 n,vt,vi,vp,vf,.bool a,.bool f]
def Gn(x:SH.dC)(vt vi vp vf:Value):Value:=dK x.kind x.deep x.num vt vi vp vf x.all x.fold
theorem H6(x:SH.dC)(vt vi vp vf:Value)(w:World)(h:nS w x vt vi vp vf):Calls Tryz.prog 39 #[Gn x vt vi vp vf] w (qL (.bool (SH.holds x)) w):=by
 obtain⟨At,s,u,v,z,A,B,cf,rfl,rfl,rfl,rfl,-⟩:=h.shape;clear h;obtain⟨k,d,n,t,f,p,fo,i,j⟩:=x;have m:=jd (show SH.holds ⟨k,d,n,t,f,p,fo,i,j⟩=(decide (k=2)||decide (k=6))from rfl);dsimp only[Gn,dK];rcases a:(k==2)with _|_;focus
  have e:¬k=2:=by simpa using a
  have r:=jd (show SH.holds ⟨k,d,n,t,f,p,fo,i,j⟩=(k==6)by rw[m.o,bR e,Bool.false_or,Bool.eq_iff_iff];simp)
 rotate_left;focus
  have e:k=2:=by simpa using a
  have r:=jd (show SH.holds ⟨k,d,n,t,f,p,fo,i,j⟩=true by rw[m.o,bJ e];rfl)
 rotate_left;all_goals
  clear e;go_enter Tryz.func39,Tryz.ntmps39;go_wp2_with fail;go_ret;exact⟨aH (by rw[r.o];first|done|rfl),(by(focus(repeat(first|exact aa _|apply ah|apply af|(apply Ext.set _ (by first|exact az _|(simp;omega)))))))⟩
def zB(n:Int)(t i p f:Nat)(al fd:Bool):Bool:=decide (n=0)&&(decide (t=0)&&(decide (i=0)&&(decide (p=0)&&(decide (f=0)&&(!al&&!fd)))))
theorem VU(k d n:Int)(t i p f:Nat)(e a:Bool)(At r s u:Option Addr)(v z A cf:Nat)(w:World):Calls Tryz.prog 59 #[dK k d n (.slice At t v) (.slice r i z) (.slice s p A) (.slice u f cf) e a] w (qL (.bool (zB n t i p f e a)) w):=by
 have h:=jd (show zB n t i p f e a=(decide (n=0)&&(decide (t=0)&&(decide (i=0)&&(decide (p=0)&&(decide (f=0)&&(!e&&!a))))))from rfl);dsimp only[dK];rcases m:(n==0)with _|_;focus
  have B:¬n=0:=by simpa using m
  have j:=jd (show zB n t i p f e a=false by rw[h.o];simp[*])
 rotate_left;focus
  have B:n=0:=by simpa using m
  by_cases J:t=0;rotate_left;focus
   have C:((t:Int)==0)=false:=by simp;omega
   have D:(t==0)=false:=by simp;omega
   have j:=jd (show zB n t i p f e a=false by rw[h.o];simp[*])
  rotate_left;focus
   have C:((t:Int)==0)=true:=by simp;omega
   have D:(t==0)=true:=by simp;omega
   by_cases K:i=0;rotate_left;focus
    have hi:((i:Int)==0)=false:=by simp;omega
    have E:(i==0)=false:=by simp;omega
    have j:=jd (show zB n t i p f e a=false by rw[h.o];simp[*])
   rotate_left;focus
    have hi:((i:Int)==0)=true:=by simp;omega
    have E:(i==0)=true:=by simp;omega
    by_cases L:p=0;rotate_left;focus
     have F:((p:Int)==0)=false:=by simp;omega
     have G:(p==0)=false:=by simp;omega
     have j:=jd (show zB n t i p f e a=false by rw[h.o];simp[*])
    rotate_left;focus
     have F:((p:Int)==0)=true:=by simp;omega
     have G:(p==0)=true:=by simp;omega
     by_cases M:f=0;rotate_left;focus
      have H:((f:Int)==0)=false:=by simp;omega
      have I:(f==0)=false:=by simp;omega
      have j:=jd (show zB n t i p f e a=false by rw[h.o];simp[*])
     rotate_left;focus
      have H:((f:Int)==0)=true:=by simp;omega
      have I:(f==0)=true:=by simp;omega
      rcases e with _|_;rotate_left;focus
       skip;have j:=jd (show zB n t i p f true a=false by rw[h.o];simp[*])
      rotate_left;focus
       rcases a with _|_;rotate_left;focus
        skip;have j:=jd (show zB n t i p f false true=false by rw[h.o];simp[*])
       rotate_left;focus
        have j:=jd (show zB n t i p f false false=true by rw[h.o];simp[*])
 all_goals
  go_enter Tryz.func59,Tryz.ntmps59;go_wp2_with fail;go_ret;exact⟨aH (by rw[j.o];first|done|rfl),(by(focus(repeat(first|exact aa _|apply ah|apply af|(apply Ext.set _ (by first|exact az _|(simp;omega)))))))⟩
def bT(k:Int):Bool:=decide (k=0)||decide (k=5)||decide (k=6)||decide (k=7)
def bN(k:Int):Bool:=decide (k=1)||decide (k=2)||decide (k=3)||decide (k=4)
def bF(k:Int):Bool:=decide (k=4)||decide (k=7)
def jW(x:SH.dC)(vt vi vp vf:Value):Value:=dK 0 0 (if bN x.kind then 0 else x.num) (if bT x.kind then .slice none 0 0 else vt) (if x.kind=3 then .slice none 0 0 else vi) (if bF x.kind then .slice none 0 0 else vp) (if bF x.kind then .slice none 0 0 else vf) (!bF x.kind&&x.all) (!bF x.kind&&x.fold)
theorem VV(x:SH.dC)(vt vi vp vf:Value)(w:World)(h:nS w x vt vi vp vf):Calls Tryz.prog 60 #[Gn x vt vi vp vf] w (qL (jW x vt vi vp vf) w):=by
 obtain⟨At,u,e,f,i,j,m,cf,rfl,rfl,rfl,rfl,-⟩:=h.shape;clear h;obtain⟨k,d,n,t,a,p,fo,r,s⟩:=x;dsimp only[Gn,dK];rcases A:(k==4)with _|_;rotate_left
 .obtain rfl:k=4:=by simpa using A
  clear A;have z:=jd (show jW ⟨4,d,n,t,a,p,fo,r,s⟩ (.slice At t.length u) (.slice e a.length f) (.slice i p.length j) (.slice m fo.length cf)=.agg #[.int .i64 0,.int .i64 0,.int .i64 0,.slice At t.length u,.slice e a.length f,.slice none 0 0,.slice none 0 0,.bool false,.bool false]by simp[jW,dK,bT,bN,bF]);rw[z.o];go_enter Tryz.func60,Tryz.ntmps60;go_wp2_with fail;refine bC (v:=.agg #[.int .i64 0,.int .i64 0,.int .i64 0,.slice At t.length u,.slice e a.length f,.slice none 0 0,.slice none 0 0,.bool false,.bool false]) (by simp[results,Tryz.results60,go_sem]) rfl ?_;exact⟨rfl,(by(focus(repeat(first|exact aa _|apply ah|apply af|(apply Ext.set _ (by first|exact az _|(simp;omega)))))))⟩
 rcases B:(k==1)with _|_;rotate_left;focus
  obtain rfl:k=1:=by simpa using B
  clear B A;have z:=jd (show jW ⟨1,d,n,t,a,p,fo,r,s⟩ (.slice At t.length u) (.slice e a.length f) (.slice i p.length j) (.slice m fo.length cf)=.agg #[.int .i64 0,.int .i64 0,.int .i64 0,.slice At t.length u,.slice e a.length f,.slice i p.length j,.slice m fo.length cf,.bool r,.bool s]by simp[jW,dK,bT,bN,bF])
 rotate_left;focus
  rcases C:(k==2)with _|_;rotate_left;focus
   obtain rfl:k=2:=by simpa using C
   clear C A B;have z:=jd (show jW ⟨2,d,n,t,a,p,fo,r,s⟩ (.slice At t.length u) (.slice e a.length f) (.slice i p.length j) (.slice m fo.length cf)=.agg #[.int .i64 0,.int .i64 0,.int .i64 0,.slice At t.length u,.slice e a.length f,.slice i p.length j,.slice m fo.length cf,.bool r,.bool s]by simp[jW,dK,bT,bN,bF])
  rotate_left;focus
   rcases D:(k==3)with _|_;rotate_left
   .obtain rfl:k=3:=by simpa using D
    clear D A B C;have z:=jd (show jW ⟨3,d,n,t,a,p,fo,r,s⟩ (.slice At t.length u) (.slice e a.length f) (.slice i p.length j) (.slice m fo.length cf)=.agg #[.int .i64 0,.int .i64 0,.int .i64 0,.slice At t.length u,.slice none 0 0,.slice i p.length j,.slice m fo.length cf,.bool r,.bool s]by simp[jW,dK,bT,bN,bF]);rw[z.o];go_enter Tryz.func60,Tryz.ntmps60;go_wp2_with fail;refine bC (v:=.agg #[.int .i64 0,.int .i64 0,.int .i64 0,.slice At t.length u,.slice none 0 0,.slice i p.length j,.slice m fo.length cf,.bool r,.bool s]) (by simp[results,Tryz.results60,go_sem]) rfl ?_;exact⟨rfl,(by(focus(repeat(first|exact aa _|apply ah|apply af|(apply Ext.set _ (by first|exact az _|(simp;omega)))))))⟩
   rcases E:(k==7)with _|_;rotate_left
   .obtain rfl:k=7:=by simpa using E
    clear E A B C D;have z:=jd (show jW ⟨7,d,n,t,a,p,fo,r,s⟩ (.slice At t.length u) (.slice e a.length f) (.slice i p.length j) (.slice m fo.length cf)=.agg #[.int .i64 0,.int .i64 0,.int .i64 n,.slice none 0 0,.slice e a.length f,.slice none 0 0,.slice none 0 0,.bool false,.bool false]by simp[jW,dK,bT,bN,bF]);rw[z.o];go_enter Tryz.func60,Tryz.ntmps60;go_wp2_with fail;refine bC (v:=.agg #[.int .i64 0,.int .i64 0,.int .i64 n,.slice none 0 0,.slice e a.length f,.slice none 0 0,.slice none 0 0,.bool false,.bool false]) (by simp[results,Tryz.results60,go_sem]) rfl ?_;exact⟨rfl,(by(focus(repeat(first|exact aa _|apply ah|apply af|(apply Ext.set _ (by first|exact az _|(simp;omega)))))))⟩
   rcases F:(k==0)with _|_;rotate_left;focus
    obtain rfl:k=0:=by simpa using F
    clear F A B C D E;have z:=jd (show jW ⟨0,d,n,t,a,p,fo,r,s⟩ (.slice At t.length u) (.slice e a.length f) (.slice i p.length j) (.slice m fo.length cf)=.agg #[.int .i64 0,.int .i64 0,.int .i64 n,.slice none 0 0,.slice e a.length f,.slice i p.length j,.slice m fo.length cf,.bool r,.bool s]by simp[jW,dK,bT,bN,bF])
   rotate_left;focus
    rcases G:(k==5)with _|_;rotate_left;focus
     obtain rfl:k=5:=by simpa using G
     clear G A B C D E F;have z:=jd (show jW ⟨5,d,n,t,a,p,fo,r,s⟩ (.slice At t.length u) (.slice e a.length f) (.slice i p.length j) (.slice m fo.length cf)=.agg #[.int .i64 0,.int .i64 0,.int .i64 n,.slice none 0 0,.slice e a.length f,.slice i p.length j,.slice m fo.length cf,.bool r,.bool s]by simp[jW,dK,bT,bN,bF])
    rotate_left;focus
     rcases H:(k==6)with _|_;rotate_left;focus
      obtain rfl:k=6:=by simpa using H
      clear H A B C D E F G;have z:=jd (show jW ⟨6,d,n,t,a,p,fo,r,s⟩ (.slice At t.length u) (.slice e a.length f) (.slice i p.length j) (.slice m fo.length cf)=.agg #[.int .i64 0,.int .i64 0,.int .i64 n,.slice none 0 0,.slice e a.length f,.slice i p.length j,.slice m fo.length cf,.bool r,.bool s]by simp[jW,dK,bT,bN,bF])
     rotate_left;focus
      have I:¬k=4:=by simpa using A
      have J:¬k=1:=by simpa using B
      have K:¬k=2:=by simpa using C
      have L:¬k=3:=by simpa using D
      have M:¬k=7:=by simpa using E
      have N:¬k=0:=by simpa using F
      have O:¬k=5:=by simpa using G
      have e6:¬k=6:=by simpa using H
      have z:=jd (show jW ⟨k,d,n,t,a,p,fo,r,s⟩ (.slice At t.length u) (.slice e a.length f) (.slice i p.length j) (.slice m fo.length cf)=.agg #[.int .i64 0,.int .i64 0,.int .i64 n,.slice At t.length u,.slice e a.length f,.slice i p.length j,.slice m fo.length cf,.bool r,.bool s]by simp[jW,dK,bT,bN,bF,N,J,K,L,I,O,e6,M]);clear I;clear J;clear K;clear L;clear M;clear N;clear O;clear e6;rw[z.o];go_enter Tryz.func60,Tryz.ntmps60;go_wp2_with fail;refine bC (v:=.agg #[.int .i64 0,.int .i64 0,.int .i64 n,.slice At t.length u,.slice e a.length f,.slice i p.length j,.slice m fo.length cf,.bool r,.bool s]) (by simp[results,Tryz.results60,go_sem]) rfl ?_;exact⟨rfl,(by(focus(repeat(first|exact aa _|apply ah|apply af|(apply Ext.set _ (by first|exact az _|(simp;omega)))))))⟩
   all_goals
    rw[z.o];go_enter Tryz.func60,Tryz.ntmps60;go_wp2_with fail;refine bC (v:=.agg #[.int .i64 0,.int .i64 0,.int .i64 n,.slice none 0 0,.slice e a.length f,.slice i p.length j,.slice m fo.length cf,.bool r,.bool s]) (by simp[results,Tryz.results60,go_sem]) rfl ?_;exact⟨rfl,(by(focus(repeat(first|exact aa _|apply ah|apply af|(apply Ext.set _ (by first|exact az _|(simp;omega)))))))⟩
 all_goals
  rw[z.o];go_enter Tryz.func60,Tryz.ntmps60;go_wp2_with fail;refine bC (v:=.agg #[.int .i64 0,.int .i64 0,.int .i64 0,.slice At t.length u,.slice e a.length f,.slice i p.length j,.slice m fo.length cf,.bool r,.bool s]) (by simp[results,Tryz.results60,go_sem]) rfl ?_;exact⟨rfl,(by(focus(repeat(first|exact aa _|apply ah|apply af|(apply Ext.set _ (by first|exact az _|(simp;omega)))))))⟩
theorem wu(w:World)(a b:Obj):((w.alloc a).alloc b).heap[w.heap.size+1]?=some b:=by have h:=aB (w.alloc a) b;rwa[show(w.alloc a).heap.size=w.heap.size+1 by simp]at h
theorem FM.rD:∀l:List FM.Form,(FM.print l).length<=FM.nH l
|[]=>by simp[FM.print]
|f::r=>by have a:=FM.rD r;have d:=FM.PR f;rw[show FM.print (f::r)=FM.put f++FM.print r from rfl,ai];simp only[FM.nH];omega
theorem Fy(w0 wr:World)(v:Value)(a:List Int)(x:SH.dC)(vt vi vp vf:Value)(h:iT w0 v a wr)(R:nS w0 x vt vi vp vf)(hm:FM.may x.forms=true)(hb:a.length+2*x.pat.length+FM.nH x.forms<=35184372000000):Calls Tryz.prog 54 #[v,Gn x vt vi vp vf] wr (Sv w0 (a++SH.trans x) wr v):=by
 have H:=jd (fun W v s(hW:iT w0 v s W)(hl:s.length+2*x.pat.length<=35184372088000)=>OE w0 W v vp s x.pat hW R.pat hl);have I:=jd (fun W(hW:Ext w0 W)=>NR x.forms vf W (R.forms.ext hW) (by omega));have HM:=jd hm;have J:=jd (show SH.trans x=47::(SH.ahead x.pat++47::(FM.print x.forms++47::SH.flags x))from rfl);have tN:=jd (FM.rD x.forms);obtain⟨At,S,T,U,V,X,Y,cf,rfl,rfl,rfl,rfl,-⟩:=R.shape;have r:=jd (show ji w0 wr v wr.heap.size [.int .i64 x.kind,.int .i64 x.deep,.int .i64 x.num,.slice At x.text.length S,.slice T x.items.length U,.slice V x.pat.length X,.slice Y x.forms.length cf,.bool x.all,.bool x.fold] v a (wr.alloc (.cells #[.int .i64 x.kind,.int .i64 x.deep,.int .i64 x.num,.slice At x.text.length S,.slice T x.items.length U,.slice V x.pat.length X,.slice Y x.forms.length cf,.bool x.all,.bool x.fold] 28))from⟨Ax.aj (.of h) ((aa wr).alloc _),aB wr _⟩);obtain⟨Ao,co,rfl,-⟩:=h.own.form;clear h R hm;obtain⟨k,d,n,t,C,p,fo,al,fd⟩:=x;dsimp only[Gn,dK]at hb H I HM J r tN⊢;obtain⟨nb,K⟩:∃nb,nb=wr.heap.size:=⟨_,rfl⟩;go_enter Tryz.func54,Tryz.ntmps54;go_upto_region 1 with fail;rw[<-K]at r⊢;clear K;generalize wr.alloc (.cells #[.int .i64 k,.int .i64 d,.int .i64 n,.slice At t.length S,.slice T C.length U,.slice V p.length X,.slice Y fo.length cf,.bool al,.bool fd] 28)=D at r⊢;go_cut[0](fun s0 wx=>∃(A:Option Addr)(o:List Int)(c:Nat),s0=.slice A o.length c/\o=a++47::(SH.ahead p++[47])/\o.length<=a.length+2*p.length+2/\ji w0 wr (.slice Ao a.length co) nb [.int .i64 k,.int .i64 d,.int .i64 n,.slice At t.length S,.slice T C.length U,.slice V p.length X,.slice Y fo.length cf,.bool al,.bool fd] (.slice A o.length c) o wx);case first=>
  have d5:=r.o.c 5 _ rfl;have hbs:=r.o.lt;have i:=jd (show∀g,(Value.slice Ao a.length co).ownBlock=some g->g<D.heap.size from fun g hg=>(r.o.ax.bX.own.lt g hg).2);have L:True:=trivial;go_region_law(first|(have _t:=L;refine Ax.step rfl _ _ (by rfl) (r.o.aj (by(focus(repeat(first|exact aa _|apply ak|apply af))))).ax.base [47] (by rfl) _ 1 1 (by rfl) rfl (by decide) ?hc (by omega) ?_;(case hc=>(first|exact bI (ys:=[47]) (aB D _)|exact bI (ys:=[47]) (gG (by(focus(repeat(first|exact aa _|apply ak|apply af)))) (aB D _))|exact bI (ys:=[47]) (wu D _ _)));intro s Z c2 w2 gU hl2 f;have M:=jd ((r.o.aj (by(focus(repeat(first|exact aa _|apply ak|apply af))))).mP f.o);have d5:=M.o.c 5 _ rfl;have hbs:=M.o.lt;have u:=jd (M.o.ax.bX.own.lt Z rfl).2;clear L _t)|(go_simp;go_at_call 77;refine(H.o _ _ s (M.o.aj (by(focus(repeat(first|exact aa _|apply ak|apply af))))).ax.bX (by omega)).mono ?_;rintro e w3⟨A3,c3,he,h3⟩;generalize w:s++SH.ahead p=o3 at he h3;subst he;have hl3:o3.length<=s.length+2*p.length:=(by rw[<-w,ai];have:=SH.kT p;omega);have gz:=jd w;have bQ:=jd ((M.o.aj (by(focus(repeat(first|exact aa _|apply ak|apply af))))).mP h3);have Hl:=jd h3;clear h3 w)|(refine ji.step rfl _ _ (by rfl) (bQ.o.aj (by(focus(repeat(first|exact aa _|apply ak|apply af))))) [47] (by rfl) _ 1 1 (by rfl) rfl (by decide) ?hc (by omega) ?_;(case hc=>(first|exact bI (ys:=[47]) (aB w3 _)|exact bI (ys:=[47]) (Hl.o.keep (aB w2 _) (by intro h;simp[Value.ownBlock]at h;have N:=u.o;rcases f.o.own Z rfl with j|j;(have:=i.o _ j;omega);(simp at j;omega)))|exact bI (ys:=[47]) (Hl.o.keep (f.o.keep (gG (by(focus(repeat(first|exact aa _|apply ak|apply af)))) (aB D _)) (fun e=>by have:=i.o _ e;omega)) (by intro h;simp[Value.ownBlock]at h;have N:=u.o;rcases f.o.own Z rfl with j|j;(have:=i.o _ j;omega);(simp at j;omega)))|exact bI (ys:=[47]) (Hl.o.keep (f.o.keep (wu D _ _) (fun e=>by have:=i.o _ e;omega)) (by intro h;simp[Value.ownBlock]at h;have N:=u.o;rcases f.o.own Z rfl with j|j;(have:=i.o _ j;omega);(simp at j;omega)))));intro o4 g4 c4 w4 E hl4 z));all_goals
   go_wp2_with fail;go_meet;exact⟨_,o4,_,rfl,by rw[<-E.o,<-gz.o,<-gU.o];simp,by omega,z.o⟩
 case rest=>
  obtain⟨A4,o4,c4,rfl,O,hl4,h4⟩:=hcut;have z:=jd h4;have E:=jd O;clear h4 O;have d6:=z.o.c 6 _ rfl;have d7:=z.o.c 7 _ rfl;have d8:=z.o.c 8 _ rfl;have HP4:=jd (I.o wc z.o.ax.ext);go_upto_region 3 with(go_at_call 78;refine HP4.o.mono ?_;rintro e w5⟨hx,⟨-,A5,c5,rfl,F⟩|⟨F,rfl⟩⟩;rotate_left;(exfalso;rw[HM.o]at F;cases F);have cB:=jd (z.o.aj hx);have yz:=jd F.sl.mV;generalize P:FM.print fo=fp at yz F tN⊢;have m:=jd P;clear F hx P);have hpl:=tN.o;have L:True:=trivial;go_upto_region 4 with(first|(at_builtin;have _t:=L;refine ji.row rfl _ _ rfl cB.o _ fp yz.o rfl rfl (by omega) ?_;intro o6 A6 c6 w6 tu FR fe;clear L _t)|(at_builtin;refine iL rfl _ _ rfl fe.o [47] rfl _ 1 rfl rfl rfl (by decide) (by omega) ?_;intro o7 A7 c7 w7 JI IK G));have d7:=G.o.c 7 _ rfl;have d8:=G.o.c 8 _ rfl;cases al<;>cases fd
  .go_wp2_with fail;go_ret;have B:a++SH.trans ⟨k,d,n,t,C,p,fo,false,false⟩=o7:=by rw[J.o,m.o,<-JI.o,<-tu.o,E.o];simp[SH.flags]
   rw[B];exact⟨_,_,rfl,G.o.ax⟩
  .go_wp2_with(at_builtin;refine iL rfl _ _ rfl G.o [105] rfl _ 1 rfl rfl rfl (by decide) (by omega) ?_;intro o9 A9 c9 w9 F4 tT ow);go_ret;have B:a++SH.trans ⟨k,d,n,t,C,p,fo,false,true⟩=o9:=by rw[J.o,m.o,<-F4.o,<-JI.o,<-tu.o,E.o];simp[SH.flags]
   rw[B];exact⟨_,_,rfl,ow.o.ax⟩
  .go_wp2_with(at_builtin;refine iL rfl _ _ rfl G.o [103] rfl _ 1 rfl rfl rfl (by decide) (by omega) ?_;intro o8 A8 c8 w8 L9 Q6 Q;have d8:=Q.o.c 8 _ rfl);go_ret;have B:a++SH.trans ⟨k,d,n,t,C,p,fo,true,false⟩=o8:=by rw[J.o,m.o,<-L9.o,<-JI.o,<-tu.o,E.o];simp[SH.flags]
   rw[B];exact⟨_,_,rfl,Q.o.ax⟩
  .have ja:True:=trivial;go_wp2_with(first|(at_builtin;have _t:=ja;refine iL rfl _ _ rfl G.o [103] rfl _ 1 rfl rfl rfl (by decide) (by omega) ?_;intro o8 A8 c8 w8 L9 Q6 Q;have d8:=Q.o.c 8 _ rfl;clear ja _t)|(at_builtin;refine iL rfl _ _ rfl Q.o [105] rfl _ 1 rfl rfl rfl (by decide) (by omega) ?_;intro o9 A9 c9 w9 F4 tT ow));go_ret;have B:a++SH.trans ⟨k,d,n,t,C,p,fo,true,true⟩=o9:=by rw[J.o,m.o,<-F4.o,<-L9.o,<-JI.o,<-tu.o,E.o];simp[SH.flags]
   rw[B];exact⟨_,_,rfl,ow.o.ax⟩
def FI(out:List Int)(w:World)(e:Ending)(w':World):Prop:=∃A c,e=.returned (.slice A out.length c)/\iT w (.slice A out.length c) out w'
theorem SI(w:World):iT w (.slice none 0 0) [] w:=⟨dO,aa w⟩
theorem Co(w:World)(X:Value)(s:List Int)(Y:ib w X s)(hb:s.length<=10000000000):Calls Tryz.prog 58 #[X] w (FI (SH.ahead s) w):=by
 have H:=jd Y;obtain⟨A,ca,rfl,hlx,hcx,-⟩:=Y;go_enter Tryz.func58,Tryz.ntmps58;go_wp2_with fail;go_loopw[3,4](fun v i wk=>∃(k:Nat)(f:List Int),k<=s.length/\i=.int .i64 (k:Int)/\iT w v f wk/\f++SH.ahead (s.drop k)=SH.ahead s/\f.length<=2*k)(fun _ i _=>s.length-(intOf i).toNat);case atStart=>exact⟨0,[],aL _,rfl,SI w,rfl,by simp⟩
 case round=>
  obtain⟨k,f,hk,rfl,E,Z,hal⟩:=hrel;have J:=jd (Ax.of E);have Q:=jd Z;obtain⟨Ak,ck,rfl,-⟩:=E.own.form;clear E Z;by_cases u:k<s.length
  .obtain⟨b,o,rfl,z⟩:=(H.o.ext J.o.ext).at_ u;have B:=jd (H.o.at_ u);by_cases e:s[k]=47
   .have C:=jd (show(f++[92])++[47]++SH.ahead (s.drop (k+1))=SH.ahead s by rw[<-Q.o,SH.Cg u e];simp);rw[e]at z B;clear e;have K:True:=trivial;go_wp2_with(first|(at_builtin;have _t:=K;refine Ax.lit rfl _ _ rfl J.o [92] rfl _ 1 rfl rfl rfl (by decide) (by omega) ?_;intro o2 A2 c2 w2 R S j;obtain⟨L,M,d,a⟩:=B.o;injection d with d;injection d with p r _;subst p r;have z:=j.o.ext.cell a;clear K _t a)|(at_builtin;refine Ax.lit rfl _ _ rfl j.o [47] rfl _ 1 rfl rfl rfl (by decide) (by omega) ?_;intro F T c3 U G I t;obtain⟨L,M,d,a⟩:=B.o;injection d with d;injection d with p r _;subst p r;have z:=t.o.ext.cell a;clear a));go_roundw;case rel=>exact⟨k+1,F,by omega,by go_num,t.o.bX,by rw[<-G.o,<-R.o];exact C.o,by omega⟩
    case measure=>simp[intOf];omega
   .have V:(s[k]==47)=false:=by simpa using e
    by_cases N:s[k]=92/\k+1<s.length
    .obtain⟨m,D⟩:=N;have C:=jd (show(f++[92])++[s[k+1]]++SH.ahead (s.drop (k+2))=SH.ahead s by rw[<-Q.o,SH.Hz D m];simp);rw[m]at z B;have O:(k:Int)+1<s.length:=by omega
     have dY:=jd (H.o.at_ D);generalize s[k+1]=y at dY C;clear m e V;have K:True:=trivial;go_wp2_with(first|(at_builtin;have _t:=K;refine Ax.lit rfl _ _ rfl J.o [92] rfl _ 1 rfl rfl rfl (by decide) (by omega) ?_;intro o2 A2 c2 w2 R S j;obtain⟨L,M,d,a⟩:=dY.o;injection d with d;injection d with p r _;subst p r;have hcy:=j.o.ext.cell a;obtain⟨L,M,d,P⟩:=B.o;injection d with d;injection d with p r _;subst p r;have z:=j.o.ext.cell P;clear K _t a P)|(at_builtin;refine Ax.lit rfl _ _ rfl j.o [y] rfl _ 1 rfl rfl rfl (by decide) (by omega) ?_;intro F T c3 U G I t));go_roundw;case rel=>exact⟨k+2,F,by omega,by go_num,t.o.bX,by rw[<-G.o,<-R.o];exact C.o,by omega⟩
     case measure=>simp[intOf];omega
    .have C:=jd (show f++[s[k]]++SH.ahead (s.drop (k+1))=SH.ahead s by
      rw[<-Q.o];by_cases m:s[k]=92
      .have:k+1=s.length:=by
        rcases fC (k+1) s.length with h|h
        .exact absurd ⟨m,h⟩ N
        .omega
       rw[SH.Fu this e,SH.vY (k:=k+1) (by omega)];simp
      .rw[SH.H5 u e m];simp);by_cases m:s[k]=92
     .have O:¬(k:Int)+1<s.length:=by intro h;exact N ⟨m,by omega⟩
      rw[m]at z C B;clear m e N V;go_wp2_with(at_builtin;refine Ax.lit rfl _ _ rfl J.o [92] rfl _ 1 rfl rfl rfl (by decide) (by omega) ?_;intro F T c3 U G I t;obtain⟨L,M,d,a⟩:=B.o;injection d with d;injection d with p r _;subst p r;have z:=t.o.ext.cell a;clear a);go_roundw;case rel=>exact⟨k+1,F,by omega,by go_num,t.o.bX,by rw[<-G.o];exact C.o,by omega⟩
      case measure=>simp[intOf];omega
     .have WV:(s[k]==92)=false:=by simpa using m
      clear m e N;generalize s[k]=y at z C V WV B;go_wp2_with(at_builtin;refine Ax.lit rfl _ _ rfl J.o [y] rfl _ 1 rfl rfl rfl (by decide) (by omega) ?_;intro F T c3 U G I t;obtain⟨L,M,d,a⟩:=B.o;injection d with d;injection d with p r _;subst p r;have z:=t.o.ext.cell a;clear a);go_roundw;case rel=>exact⟨k+1,F,by omega,by go_num,t.o.bX,by rw[<-G.o];exact C.o,by omega⟩
      case measure=>simp[intOf];omega
  .have HT:=jd (show f=SH.ahead s by rw[<-Q.o,SH.vY (by omega),iU]);go_wp2_with fail;go_ret;rw[<-HT.o];exact⟨_,_,rfl,J.o.bX⟩
section
variable{w0 ws wr w' W w2:World}{vs v v' v2 u:Value}{out o2:List Int}
theorem Ax.wH{B:Nat}{s:List Int}(k:Ax w0 W v v2 o2 w2)(h:ay 21 1 Cc B W u s)(e:∀g,u.ownBlock=some g->v.ownBlock≠some g):ay 21 1 Cc B w2 u s:=by
 obtain⟨flat,a,t⟩:=h;refine⟨flat,⟨a.1,?_⟩,t⟩;rcases a.2 with w|⟨g,f,i,r,z,A,j,m,p,d⟩
 .exact .inl w
 .exact .inr ⟨g,f,i,r,z,k.keep A (e g (by rw[r];rfl)),j,m,p,d⟩
theorem Ax.mF{j:Array Oper}{o:Oper}{a:Act}{Q:Exit->Act->World->Prop}{K:Act->World->Prop}{E:Prop}(k:o.guard=none)(s x:Operand)(t:o.op=.call {callee:=.builtin .append,args:=#[s,x],argTypes:=#[24,24]})(h:Ax w0 ws vs v out wr)(f:Value)(ys:List Int)(d:ib wr f ys)(z:a.eval s=v)(B:a.eval x=f)(O:out.length+ys.length<=35184372088832)(H:∀(o2:List Int)A c w',Hd (out++ys=o2)->o2.length<=out.length+ys.length->Hd (Ax w0 ws vs (.slice A o2.length c) o2 w')->K (a.put o.dst (.slice A o2.length c)) w'):if Region.wanted o (yielded j a.tmps)=true then Oper.wp Tryz.prog o a wr K Q else E:=by
 rw[av (by simp[Region.wanted,k])];have C:∀v' w',Ax w0 ws vs v' (out++ys) w'->K (a.put o.dst v') w':=fun v' w' D=>by obtain⟨A,c,rfl,-⟩:=D.bX.own.form;exact H (out++ys) A c w' rfl (by rw[ai];exact az _) D
 obtain⟨F,hi,m,p,r⟩:=fD gQ;obtain⟨A,c,rfl,R,S,-,-⟩:=id d;rcases d.aaK with⟨rfl,rfl,rfl⟩|⟨I,rfl,e⟩
 .have i:=run_append_owned_none (P:=Tryz.prog) (w:=wr) w0.heap.size 24 o.type 21 F 1 eT hi v out.length (out.map (Value.int .i32)) h.bX.own.dM;unfold Oper.wp;simp[execOp,t,resolve,invoke,builtin,z,B,i,Result.andThen];exact C v wr (by rw[iU];exact h)
 .obtain⟨v',w',J,L,M,-,N⟩:=run_append_own_at (P:=Tryz.prog) wr w0.heap.size 24 o.type 21 F (.int .i32 0) 1 4 eT hi m p r rfl (by decide) v out.length _ h.bX.own.dM I ys.length c (ys.map (Value.int .i32)) (by simp) (eG e) (fun u G=>by simp at G;obtain⟨y,_,rfl⟩:=G;rfl) (by unfold maxLen;omega) (by omega) h.bX.ext.size;unfold Oper.wp execOp;simp only[t,resolve,invoke,builtin,Sem.run_bind,Sem.run_pure,Result.andThen_ok,List.map_toArray,lM,mM,z,B,J];exact C v' w' (h.app (mI (by rw[jS,ai];exact L)) M N)
theorem ji.mF{nb:Nat}{cs:List Value}{f:Array Oper}{o:Oper}{a:Act}{Q:Exit->Act->World->Prop}{K:Act->World->Prop}{E:Prop}(i:o.guard=none)(s x:Operand)(j:o.op=.call {callee:=.builtin .append,args:=#[s,x],argTypes:=#[24,24]})(h:ji w0 ws vs nb cs v out wr)(d:Value)(ys:List Int)(e:ib wr d ys)(k:a.eval s=v)(m:a.eval x=d)(p:out.length+ys.length<=35184372088832)(r:∀(o2:List Int)A c w',Hd (out++ys=o2)->o2.length<=out.length+ys.length->Hd (ji w0 ws vs nb cs (.slice A o2.length c) o2 w')->K (a.put o.dst (.slice A o2.length c)) w'):if Region.wanted o (yielded f a.tmps)=true then Oper.wp Tryz.prog o a wr K Q else E:=h.ax.base.mF i s x j d ys e k m p fun o2 A c w' t w z=>r o2 A c w' t w (h.mP z.o)
end
def Zr(T S:Nat)(v:Value):Prop:=∀k,v.ownBlock=some k->k<T\/S<=k
theorem aT.keepR{T S:Nat}{w w':World}{v:Value}{xs:List Int}(h:aT 21 1 Cc T w v xs)(k:M4 S v)(m:∀(g:Nat)(o:Obj),T<=g->g<S->w.heap[g]?=some o->w'.heap[g]?=some o):aT 21 1 Cc T w' v xs:=by
 obtain⟨A,c,e,p,r,s,t⟩:=h;refine⟨A,c,e,p,r,s,fun f a=>?_⟩;obtain⟨g,o,d,i,j,u,z,B⟩:=t f a;have C:g<S:=by have:=k f xs.length c (by rw[e,a]);rw[i]at this;exact this
 exact⟨g,o,d,i,j,m g _ j C u,z,B⟩
structure Vk(w wr:World)(nb:Nat)(cs:List Value)(T S:Nat)(vt ve:Value)(tt te:List Int)(v:Value)(out:List Int)(wx:World):Prop where
 pts:Ga w wr nb cs v out wx
 ap:Zr T S v
 st:S<=wx.heap.size
 tx:aT 21 1 Cc T wx vt tt
 txb:M4 S vt
 ex:aT 21 1 Cc T wx ve te
 exb:M4 S ve
section
variable{w wr wx w':World}{nb T S:Nat}{cs:List Value}{vt ve v v':Value}{tt te out out':List Int}
theorem Vk.aj(h:Vk w wr nb cs T S vt ve tt te v out wx)(a:Ext wx w'):Vk w wr nb cs T S vt ve tt te v out w':=⟨h.pts.aj a,h.ap,aG h.st a.size,h.tx.dW (jh _) (fun _ _ _ d=>a.heap d),h.txb,h.ex.dW (jh _) (fun _ _ _ d=>a.heap d),h.exb⟩
theorem Vk.app(h:Vk w wr nb cs T S vt ve tt te v out wx)(i:ay 21 1 Cc w.heap.size w' v' out')(a:wx.grownBy w' v.ownBlock)(j:Zr T S v'):Vk w wr nb cs T S vt ve tt te v' out' w':=by
 have d:∀(g:Nat)(o:Obj),T<=g->g<S->wx.heap[g]?=some o->w'.heap[g]?=some o:=fun g o k m f=>
  (a.block g (ag f) (by intro e;have:=h.ap g e.symm;omega)).trans f;exact⟨h.pts.app i a,j,aG h.st a.size,h.tx.keepR h.txb d,h.txb,h.ex.keepR h.exb d,h.exb⟩
def tL(kd cs:Int)(tt te:List Int):List Int:=if kd=1 then(if cs=0 then[]else 58::47::FM.names.getD (cs.toNat-1) [])
 else if kd=2 then 58::43::tt
 else if kd=3 then 58::45::te
 else if kd=4 then 58::63::(tt++58::te)
 else[]
theorem zu{i:Array Oper}{rest:List Oper}{o:Oper}{a:Act}{Q:Exit->Act->World->Prop}(j:o.guard=none)(s x:Operand)(C:o.op=.call {callee:=.builtin .append,args:=#[s,x],argTypes:=#[24,24]})(h:Vk w wr nb cs T S vt ve tt te v out wx)(m:Value)(ys:List Int)(d:aT 21 1 Cc T wx m ys)(D:a.eval s=v)(E:a.eval x=m)(N:out.length+ys.length<=35184372088832)(F:∀v' w',Vk w wr nb cs T S vt ve tt te v' (out++ys) w'->wpList Tryz.prog i Q rest (a.put o.dst v') w'):wpList Tryz.prog i Q (o::rest) a wx:=by
 obtain⟨G,hi,r,t,z⟩:=fD gQ;obtain⟨A,c,rfl,O,P⟩:=d.form;have f:=h.pts.bX.own;have I:=h.pts.bX.ext.size;cases A with
 |none=>obtain⟨J,-,B⟩:=aT.none_ d;subst J B;refine Bw j s x 24 C w.heap.size 21 G 1 eT hi v out.length (out.map (Value.int .i32)) D f.dM E ?_;exact F v wx (by rw[iU];exact h)
 |some K=>
  refine wpList_append_own_at wx j s x _ C w.heap.size 21 G (.int .i32 0) 1 4 eT hi r t z rfl (by decide) v out.length _ D f.dM K ys.length c (ys.map (Value.int .i32)) E (by simp) (eG (aT.add d)) (fun u H=>by simp at H;obtain⟨y,_,rfl⟩:=H;rfl) (by unfold maxLen;omega) (by omega) I ?_;intro v' w' L M _ p;refine F _ w' (h.app (mI ?_) M ?_)
  .rw[jS,ai];exact L
  .intro k e;rcases p with p|p
   .exact h.ap k (p.symm.trans e)
   .rw[p]at e;injection e with e;right;rw[<-e];exact h.st
theorem zw{d:Array Oper}{rest:List Oper}{o:Oper}{a:Act}{Q:Exit->Act->World->Prop}(j:o.guard=none)(s x:Operand)(D:o.op=.call {callee:=.builtin .append,args:=#[s,x],argTypes:=#[24,24]})(h:Vk w wr nb cs T S vt ve tt te v out wx)(ys:List Int)(E:a.eval s=v)(B m:Nat)(F:a.eval x=.slice (some ⟨B,0,none⟩) m m)(p:B=wx.heap.size)(G:m=ys.length)(r:0<m)(M:out.length+ys.length<=35184372088832)(H:∀v' w',Vk w wr nb cs T S vt ve tt te v' (out++ys) w'->wpList Tryz.prog d Q rest (a.put o.dst v') w'):wpList Tryz.prog d Q (o::rest) a (wx.alloc (.cells (ys.map (Value.int .i32)).toArray 21)):=by
 subst p G;obtain⟨I,hi,t,z,A⟩:=fD gQ;have i:=h.aj ((aa wx).alloc (.cells (ys.map (Value.int .i32)).toArray 21));refine wpList_append_lies _ j s x _ D w.heap.size 21 I (.int .i32 0) 1 4 eT hi t z A rfl (by decide) v out.length _ E i.pts.bX.own.dM ⟨wx.heap.size,0,none⟩ ys.length _ (ys.map (Value.int .i32)) F (by simp) (eG (bI (aB wx _))) (fun u C=>by simp at C;obtain⟨y,_,rfl⟩:=C;rfl) r (by unfold maxLen;omega) (by omega) i.pts.bX.ext.size _ rfl ?_;intro g J w' K L e _;refine H _ w' (i.app (mI ?_) L ?_)
 .rw[jS,ai];exact K
 .intro k f;simp[Value.ownBlock]at f;subst f;rcases e with e|e
  .exact h.ap _ e
  .right;rw[e];exact i.st
end
theorem EK(l:List FM.Form)(v:Value)(w:World)(hv:Jw w v l)(hb:FM.nH l<=1000000000):Calls Tryz.prog 57 #[v] w (UB l w):=by
 have HM:=jd (sI l v w hv);obtain⟨A,ca,rfl,hlc,hcm⟩:=hv.kQ;have HV:=jd hv;clear hv;rcases lu:FM.may l with _|_
 .have HF:=jd lu;rw[lu]at HM;clear lu;go_enter Tryz.func57,Tryz.ntmps57;go_wp2_with(go_at_call 68;refine HM.o.mono ?_;rintro e w2⟨rfl,hx⟩);go_ret2;exact⟨hx,.inr ⟨HF.o,rfl⟩⟩
 have HF:=jd lu;rw[lu]at HM;clear lu;go_enter Tryz.func57,Tryz.ntmps57;go_wp2_with(go_at_call 68;refine HM.o.mono ?_;rintro e w2⟨rfl,hx⟩;have HX:=jd hx;clear hx);go_loopw[4,5](fun v i wr=>∃k:Nat,k<=l.length/\i=.int .i64 (k:Int)/\iT w v (FM.print (l.take k)) wr)(fun _ i _=>l.length-(intOf i).toNat);case atStart=>exact⟨0,aL _,rfl,dO,HX.o⟩
 case round=>
  obtain⟨k,hk,rfl,O⟩:=hrel;have HA:=jd O;have hE:=O.ext;obtain⟨Ao,co,rfl,-⟩:=O.own.form;clear O;by_cases P:k<l.length;rotate_left
  .have HT:=jd (show FM.print (l.take k)=FM.print l by rw[pU (by omega)]);clear hE;generalize FM.print (l.take k)=d at HA HT⊢;go_wp2_with fail;go_ret2;refine⟨HA.o.ext,.inl ⟨HF.o,?_⟩⟩;rw[<-HT.o];exact⟨_,_,rfl,HA.o.own⟩
  obtain⟨g,o,m,rfl,hcf,j⟩:=HV.o.atF P;have Nq:=jd (FM.D6 P);have La:=FM.D7 P;have zm:=jd (FM.D8 HF.o l[k] (bK P));generalize l[k]=f at hcf Nq La zm;unfold FM.sz at La;obtain⟨A1,c1,A2,c2,rfl,ht,he⟩:=hcf.NQ;obtain⟨z,Q,m,tx,B⟩:=f;dsimp only at j La ht he;have nR:=jd ht;have yx:=jd he;have d0:=hE.cell (j 0 _ rfl);have d1:=hE.cell (j 1 _ rfl);have d2:=hE.cell (j 2 _ rfl);have d3:=hE.cell (j 3 _ rfl);have d4:=hE.cell (j 4 _ rfl);rw[fB]at d0;have hbl:=iP _ _ d0;clear j hcf ht he hE;generalize FM.print (l.take k)=d at HA Nq La⊢;go_upto_region 8 with fail;obtain⟨nb,hnb⟩:∃nb,nb=wr.heap.size:=⟨_,rfl⟩;have F:=jd (show Ga w wr wr.heap.size [.int .i64 z,.int .i64 Q,.int .i64 m,.slice A1 tx.length c1,.slice A2 B.length c2] (.slice Ao d.length co) d (wr.alloc (.cells #[.int .i64 z,.int .i64 Q,.int .i64 m,.slice A1 tx.length c1,.slice A2 B.length c2] 109))from⟨HA.o.alloc,aB wr _,au ((aa wr).alloc _)⟩);rw[<-hnb]at F⊢;clear d0 d1 d2 d3 d4 hbl hnb;generalize wr.alloc (.cells #[.int .i64 z,.int .i64 Q,.int .i64 m,.slice A1 tx.length c1,.slice A2 B.length c2] 109)=w3 at F⊢;have H:=ag F.o.box;have d0:=F.o.c 0 _ rfl;have d3:=F.o.c 3 _ rfl;by_cases R:z=0
  .subst R;have HPU:=jd (show FM.put ⟨0,Q,m,tx,B⟩=FM.guard FM.outer tx from rfl);have Gh:=jd (oU FM.outer _ Hg tx _ w3 (nR.o.ext F.o.bX.ext) (by omega));have hgb:=kK FM.outer tx;go_wp2_with(first|(go_at_call 40;refine Gh.o.mono ?_;rintro e w4⟨v4,rfl,U,qD⟩;generalize hmk:FM.guard FM.outer tx=mk at U HPU hgb;have I:=jd (F.o.aj qD);obtain⟨A4,c4,rfl,-⟩:=U.form;have Y8:=jd U.sl;clear U qD hmk)|(at_builtin;refine qW rfl _ _ rfl w.heap.size _ _ (.slice A4 mk.length c4) d mk I.o.bX.own rfl rfl Y8.o ?hn I.o.bX.ext.size ?_;(case hn=>omega);intro v5 w5 a t;generalize h:d++mk=uG at a;have HL:=jd h;have V:=jd (I.o.app a t);obtain⟨A5,c5,rfl,-⟩:=a.form;clear a t h));go_roundw;case rel=>exact⟨k+1,by omega,by go_num,by rw[Nq.o,HPU.o,HL.o];exact V.o.bX⟩
   case measure=>simp[intOf];omega
  have HP:=jd (show FM.put ⟨z,Q,m,tx,B⟩=kZ Q++(FM.body ⟨z,Q,m,tx,B⟩++[125])by unfold FM.put kZ;rw[ae R];rfl);obtain⟨-,-,hg0,yS,hc0,Ju,hkk⟩:=FM.PQ zm.o;have HKK:=jd hkk;dsimp only at hg0 yS hc0 Ju HKK;clear hkk;obtain⟨G,rfl⟩:∃G:Nat,Q=G:=⟨Q.toNat,by omega⟩;have b0:(z==0)=false:=by simpa using R
  have hdl:=FM.Da (G:Int);have ad7:=jd (fun W=>NU G (by omega) W);go_upto_region 10 with fail;go_cut[4](fun s4 wx=>∃A4 c4,s4=.slice A4 (d++kZ G).length c4/\Ga w wr nb [.int .i64 z,.int .i64 (G:Int),.int .i64 m,.slice A1 tx.length c1,.slice A2 B.length c2] (.slice A4 (d++kZ G).length c4) (d++kZ G) wx);case first=>
   have d1:=F.o.c 1 _ rfl;have bW:True:=trivial;go_region_law(first|(have _t:=bW;refine kY rfl _ _ (by rfl) w.heap.size _ d [36,123] ?hown (by rfl) ⟨w3.heap.size,0,none⟩ 2 2 (by rfl) rfl (by decide) ?hc ?hn ?hB ?_;(case hown=>exact(F.o.aj (by(focus(repeat(first|exact aa _|apply ak|apply af))))).bX.own);(case hc=>exact bI (ys:=[36,123]) (aB w3 _));(case hn=>(simp only[aF,aN];omega));(case hB=>exact(F.o.aj (by(focus(repeat(first|exact aa _|apply ak|apply af))))).bX.size);intro gg cap w4 a t;have I:=jd ((F.o.aj (by(focus(repeat(first|exact aa _|apply ak|apply af))))).app a t);have d1:=I.o.c 1 _ rfl;have H:=ag I.o.box;clear a t;clear bW _t)|(go_simp;go_at_call 56;refine(ad7.o _).mono ?_;rintro e w5⟨v5,rfl,s,EL⟩;have V:=jd (I.o.aj ((aa w4).trans EL));obtain⟨A5,c5,rfl,-⟩:=s.form;obtain⟨g5,rfl,-⟩:=s.get (k:=0) (by omega);have HV5:=jd s;clear s EL)|(refine kY rfl _ _ (by rfl) w.heap.size _ (d++[36,123]) (FM.dec G) ?hown (by rfl) ⟨g5,0,none⟩ _ _ (by rfl) ?hm ?hm0 ?hc ?hn ?hB ?_;(case hown=>exact V.o.bX.own);(case hm=>rfl);(case hm0=>omega);(case hc=>exact aT.add HV5.o.sl);(case hn=>(simp only[ai,aF,aN];omega));(case hB=>exact V.o.bX.size);intro gg cap w6 a t;have J:=jd (V.o.app a t);clear a t));all_goals
    go_wp2_with fail;go_meet;have e9:(d++[36,123])++FM.dec (G:Int)=d++kZ G:=by simp[kZ]
    have X:=J.o;rw[e9]at X;have tT:(d++[36,123]).length+(FM.dec (G:Int)).length=(d++kZ G).length:=by rw[<-e9,ai (bs:=FM.dec _)]
    rw[tT]at X;exact⟨_,_,by simp[kZ];omega,X⟩
  case rest=>
   obtain⟨A6,c6,rfl,h6⟩:=hcut;have J:=jd h6;have hpl:=Kr (G:Int);have hl3:(d++kZ (G:Int)).length<=d.length+4:=by rw[ai];omega
   generalize Zt:d++kZ (G:Int)=u at h6 J hl3⊢;have gz:=jd Zt;have R5:=jd (show∀k,(Value.slice A6 u.length c6).ownBlock=some k->k<wc.heap.size from fun k hk=>(h6.bX.own.lt k hk).2);obtain⟨T,hT⟩:∃T,T=wc.heap.size:=⟨_,rfl⟩;have Xw:=jd hT;clear hT;have HMT:=jd (fun W(hW:Ext wc W)=>oU FM.marks _ AP tx _ W (nR.o.ext (J.o.bX.ext.trans hW)) (by omega));have Zu:=jd (fun W(hW:Ext wc W)=>oU FM.marks _ AP B _ W (yx.o.ext (J.o.bX.ext.trans hW)) (by omega));have hgt:=kK FM.marks tx;have hge:=kK FM.marks B;have Vm:=jd (show FM.body ⟨z,(G:Int),m,tx,B⟩=tL z m (FM.guard FM.marks tx) (FM.guard FM.marks B)from rfl);generalize FM.guard FM.marks tx=p at HMT hgt Vm;generalize FM.guard FM.marks B=r at Zu hge Vm;clear h6 hpl Zt d0 d3 hdl;have H:=ag J.o.box;have d3:=J.o.c 3 _ rfl;have d4:=J.o.c 4 _ rfl;have ja:True:=trivial;go_upto_region 11 with fail;go_cut[7,8](fun s7 s8 wx=>∃A7 c7 A8 c8 S,s7=.slice A7 p.length c7/\s8=.slice A8 r.length c8/\Vk w wr nb [.int .i64 z,.int .i64 (G:Int),.int .i64 m,.slice A1 tx.length c1,.slice A2 B.length c2] T S (.slice A7 p.length c7) (.slice A8 r.length c8) p r (.slice A6 u.length c6) u wx);case first=>
    go_region_law(first|(have _t:=ja;go_simp;go_at_call 40;refine(HMT.o _ ((aa _).drew)).mono ?_;rintro e w7⟨v7,rfl,C,Tt⟩;have hX7:Ext wc w7:=((aa _).drew).trans Tt;obtain⟨A7,c7,rfl,-⟩:=C.form;have HV7:=jd C.sl;have Mg:=jd hX7;have gB:=jd (J.o.aj hX7);have d4:=gB.o.c 4 _ rfl;have H:=ag gB.o.box;clear C Tt hX7;clear ja _t)|(go_simp;go_at_call 40;refine(Zu.o _ Mg.o).mono ?_;rintro e Z⟨v8,rfl,D,kW⟩;obtain⟨A8,c8,rfl,-⟩:=D.form;have HV8:=jd D.sl;have Yg:=jd kW;clear D kW));all_goals
     go_wp2_with fail;go_meet;have C:aT 21 1 Cc wc.heap.size Z (.slice A7 p.length c7) p:=HV7.o.dW (jh _) (fun _ _ _ ho=>Yg.o.heap ho);have D:aT 21 1 Cc wc.heap.size Z (.slice A8 r.length c8) r:=HV8.o.weaken Mg.o.size;rw[Xw.o];exact⟨_,_,_,_,Z.heap.size,rfl,rfl,(gB.o.aj Yg.o),fun k hk=>.inl (R5.o k hk),az _,C,C.blo,D,D.blo⟩
   case rest=>
    obtain⟨Bt,bt,Be,be,S,rfl,rfl,K⟩:=hcut;have I7:=jd K;have H:=ag K.pts.box;have d0:=K.pts.c 0 _ rfl;have d2:=K.pts.c 2 _ rfl;clear K;have t1:True:=trivial;have t2:True:=trivial;have t3:True:=trivial;have t4:True:=trivial;go_upto_block 2 with fail;go_cut[4](fun s4 wx=>∃A9 c9 E,s4=.slice A9 (List.length E) c9/\E=u++tL z m p r/\Ga w wr nb [.int .i64 z,.int .i64 (G:Int),.int .i64 m,.slice A1 tx.length c1,.slice A2 B.length c2] (.slice A9 (List.length E) c9) E wx);case first=>
     rcases HKK.o with⟨h0,-⟩|⟨a,-,-⟩|⟨t,-,-⟩|⟨h3,-,-⟩|⟨h4,-⟩
     .exact absurd h0 R
     .subst a;by_cases hcz:m=0
      .have N:=jd (show tL 1 m p r=[]by unfold tL;rw[av rfl,av hcz]);go_wp2_with fail;go_meet;exact⟨_,_,u,rfl,by rw[N.o,iU],I7.o.pts⟩
      .obtain⟨q,hq⟩:∃q,m.toNat-1=q:=⟨_,rfl⟩;have XJ:q<5:=by omega
       have N:=jd (show tL 1 m p r=58::47::FM.names.getD q []by unfold tL;rw[av rfl,ae hcz,hq]);have Yb:=jd (fun W=>zq m (by omega) Ju W);rw[hq]at Yb;have hnl:=M3 q XJ;have hnm:=yQ q XJ;have mD:=jd (DY q XJ);have aeW:(0:Int)<m:=by omega
       generalize CZ.getD q ⟨#[]⟩=nq at Yb hnl mD;generalize FM.names.getD q []=nm at N hnm mD;obtain⟨afi,afj⟩:=hnm;clear hq hcz;go_upto_region 16 with fail;go_region_law(first|(have _t:=t1;refine kY rfl _ _ (by rfl) w.heap.size _ u [58,47] ?hown (by rfl) ⟨wc.heap.size,0,none⟩ 2 2 (by rfl) rfl (by decide) ?hc ?hn ?hB ?_;(case hown=>exact(I7.o.pts.aj (by(focus(repeat(first|exact aa _|apply ak|apply af))))).bX.own);(case hc=>exact bI (ys:=[58,47]) (aB wc _));(case hn=>(simp only[aF,aN];omega));(case hB=>exact(I7.o.pts.aj (by(focus(repeat(first|exact aa _|apply ak|apply af))))).bX.size);intro gg cap w4 a t;have I:=jd ((I7.o.pts.aj (by(focus(repeat(first|exact aa _|apply ak|apply af))))).app a t);have d2:=I.o.c 2 _ rfl;have H:=ag I.o.box;clear a t;clear t1 _t)|(go_simp;go_at_call 80;refine(Yb.o _).mono ?_;rintro e w5⟨rfl,rfl⟩)|(go_simp;go_at_call 79;refine(NS nq _ (by omega)).mono ?_;rintro e w5⟨v5,rfl,s,EL⟩;rw[mD.o]at s;have V:=jd (I.o.aj ((aa w4).trans EL));obtain⟨A5,c5,rfl,-⟩:=s.form;obtain⟨g5,rfl,-⟩:=s.get (k:=0) (by omega);have HV5:=jd s;clear s EL)|(refine kY rfl _ _ (by rfl) w.heap.size _ (u++[58,47]) nm ?hown (by rfl) ⟨g5,0,none⟩ _ _ (by rfl) ?hm ?hm0 ?hc ?hn ?hB ?_;(case hown=>exact V.o.bX.own);(case hm=>rfl);(case hm0=>omega);(case hc=>exact aT.add HV5.o.sl);(case hn=>(simp only[ai,aF,aN];omega));(case hB=>exact V.o.bX.size);intro gg cap w6 a t;have J:=jd (V.o.app a t);clear a t));all_goals
        go_wp2_with fail;go_meet;have X:=J.o;have tT:(u++[58,47]).length+nm.length=((u++[58,47])++nm).length:=by rw[ai (bs:=nm)]
        rw[tT]at X;exact⟨_,_,(u++[58,47])++nm,by simp;omega,by rw[N.o];simp,X⟩
     .subst t;have N:=jd (show tL 2 m p r=58::43::p from rfl);go_wp2_with(first|(at_builtin;have _t:=t1;refine zw rfl _ _ rfl I7.o [58,43] rfl wc.heap.size 2 rfl rfl rfl (by decide) ?hn ?_;(case hn=>(simp only[aF,aN];omega));intro v7 w7 a;generalize h:u++[58,43]=L at a;have tq:=jd h;have IK:L.length<=u.length+2:=(by rw[<-h,ai];exact az _);obtain⟨A7,c7,rfl,-⟩:=a.pts.bX.own.form;have RP:=jd a;clear a h;clear t1 _t)|(at_builtin;have _t:=t2;refine zu rfl _ _ rfl RP.o (.slice Bt p.length bt) p RP.o.tx rfl rfl ?hn ?_;(case hn=>omega);intro v8 Z a;generalize h:L++p=Y at a;have Tj:=jd h;have Q6:Y.length<=L.length+p.length:=(by rw[<-h,ai];exact az _);obtain⟨A8,c8,rfl,-⟩:=a.pts.bX.own.form;have M:=jd a;clear a h;clear t2 _t));go_meet;exact⟨_,_,Y,rfl,by rw[N.o,<-Tj.o,<-tq.o];simp,M.o.pts⟩
     .subst h3;have N:=jd (show tL 3 m p r=58::45::r from rfl);go_wp2_with(first|(at_builtin;have _t:=t1;refine zw rfl _ _ rfl I7.o [58,45] rfl wc.heap.size 2 rfl rfl rfl (by decide) ?hn ?_;(case hn=>(simp only[aF,aN];omega));intro v7 w7 a;generalize h:u++[58,45]=L at a;have tq:=jd h;have IK:L.length<=u.length+2:=(by rw[<-h,ai];exact az _);obtain⟨A7,c7,rfl,-⟩:=a.pts.bX.own.form;have RP:=jd a;clear a h;clear t1 _t)|(at_builtin;have _t:=t2;refine zu rfl _ _ rfl RP.o (.slice Be r.length be) r RP.o.ex rfl rfl ?hn ?_;(case hn=>omega);intro v8 Z a;generalize h:L++r=Y at a;have Tj:=jd h;have Q6:Y.length<=L.length+r.length:=(by rw[<-h,ai];exact az _);obtain⟨A8,c8,rfl,-⟩:=a.pts.bX.own.form;have M:=jd a;clear a h;clear t2 _t));go_meet;exact⟨_,_,Y,rfl,by rw[N.o,<-Tj.o,<-tq.o];simp,M.o.pts⟩
     .subst h4;have N:=jd (show tL 4 m p r=58::63::(p++58::r)from rfl);go_wp2_with(first|(at_builtin;have _t:=t1;refine zw rfl _ _ rfl I7.o [58,63] rfl wc.heap.size 2 rfl rfl rfl (by decide) ?hn ?_;(case hn=>(simp only[aF,aN];omega));intro v7 w7 a;generalize h:u++[58,63]=L at a;have tq:=jd h;have IK:L.length<=u.length+2:=(by rw[<-h,ai];exact az _);obtain⟨A7,c7,rfl,-⟩:=a.pts.bX.own.form;have RP:=jd a;clear a h;clear t1 _t)|(at_builtin;have _t:=t2;refine zu rfl _ _ rfl RP.o (.slice Bt p.length bt) p RP.o.tx rfl rfl ?hn ?_;(case hn=>omega);intro v8 Z a;generalize h:L++p=Y at a;have Tj:=jd h;have Q6:Y.length<=L.length+p.length:=(by rw[<-h,ai];exact az _);obtain⟨A8,c8,rfl,-⟩:=a.pts.bX.own.form;have M:=jd a;clear a h;clear t2 _t)|(at_builtin;have _t:=t3;refine zw rfl _ _ rfl M.o [58] rfl Z.heap.size 1 rfl rfl rfl (by decide) ?hn ?_;(case hn=>(simp only[aF,aN];omega));intro v9 w9 a;generalize h:Y++[58]=E at a;have yK:=jd h;have tT:E.length<=Y.length+1:=(by rw[<-h,ai];exact az _);obtain⟨A9,c9,rfl,-⟩:=a.pts.bX.own.form;have HP9:=jd a;clear a h;clear t3 _t)|(at_builtin;have _t:=t4;refine zu rfl _ _ rfl HP9.o (.slice Be r.length be) r HP9.o.ex rfl rfl ?hn ?_;(case hn=>omega);intro v10 Vn a;generalize h:E++r=Qm at a;have ad8:=jd h;have ad9:Qm.length<=E.length+r.length:=(by rw[<-h,ai];exact az _);obtain⟨A10,c10,rfl,-⟩:=a.pts.bX.own.form;have NY:=jd a;clear a h;clear t4 _t));go_meet;exact⟨_,_,Qm,rfl,by rw[N.o,<-ad8.o,<-yK.o,<-Tj.o,<-tq.o];simp,NY.o.pts⟩
    case rest=>
     obtain⟨A9,c9,E,rfl,Y9,X⟩:=hcut;have ow:=jd X;have tT:E.length<=d.length+2*tx.length+2*B.length+20:=by
      rw[Y9,ai];have:(tL z m p r).length<=p.length+r.length+13:=by
       have hnl:=FM.Kt (m.toNat-1);unfold tL;split
       .split
        .simp
        .simp only[aF];omega
       split
       .simp only[aF];omega
       split
       .simp only[aF];omega
       split
       .simp only[aF,ai];omega
       .simp
      omega
     have F4:=jd Y9;clear Y9 X;go_wp2_with(at_builtin;refine eX rfl _ _ rfl w.heap.size _ E [125] ow.o.bX.own.jC rfl ⟨wc.heap.size,0,none⟩ 1 1 rfl rfl (jE rfl) ?hn ?hB ?_;(case hn=>(simp only[aF,aN];omega));(case hB=>exact aG ow.o.bX.size (by simp));intro v8 Z a t;generalize h:E++[125]=Qm at a;have HL:=jd h;have aea:=jd ((ow.o.aj ((aa _).alloc _)).app a t);obtain⟨A10,c10,rfl,-⟩:=a.form;clear a t h);go_roundw;case rel=>exact⟨k+1,by omega,by go_num,by rw[Nq.o,HP.o,Vm.o,show d++(kZ (G:Int)++(tL z m p r++[125]))=Qm by rw[<-HL.o,F4.o,<-gz.o];simp];exact aea.o.bX⟩
     case measure=>simp[intOf];omega
theorem Ry{α:Type}{n:Nat}{P:Nat->α->Prop}(h:∀k,k<n->∃x,P k x):∃l:List α,l.length=n/\∀k x,l[k]?=some x->P k x:=by
 induction n with
 |zero=>exact⟨[],rfl,by intro k x h;simp at h⟩
 |succ n j=>
  obtain⟨l,m,p⟩:=j (fun k i=>h k (by omega));obtain⟨x,r⟩:=h n (by omega);refine⟨l++[x],by simp[m],fun k y a=>?_⟩;rcases fC k l.length with d|f
  .rw[lK d]at a;exact p k y a
  .rw[nN f]at a;have i:k-l.length=0:=by
    rcases xm (k-l.length)with e|e
    .exact e
    .rw[gD (by simp;omega)]at a;cases a
   rw[i]at a;simp at a;subst a;have:k=n:=by omega
   rw[this];exact r
theorem PV.five{w:World}{cs:List Value}{f:FM.Form}(h:PV w cs f):cs.length=5/\∀u∈cs,u.oneCell'=true:=by obtain⟨A,c,a,d,rfl,-,-⟩:=h.NQ;exact⟨rfl,by simp[Value.oneCell']⟩
end Go.Proofs.YtcogknbbbjnaiaaGreatDoor
