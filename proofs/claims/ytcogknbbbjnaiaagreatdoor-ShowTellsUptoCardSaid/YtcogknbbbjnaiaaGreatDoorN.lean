/- For ShowTells: what the texts XAtm XRow XAlt of wip/tpl say. -/
import Derived.Test.YtcogknbbbjnaiaaGreatDoorL
import Derived.Test.YtcogknbbbjnaiaaGreatDoorM
set_option maxRecDepth 100000
set_option maxHeartbeats 4000000
namespace Go.Proofs.YtcogknbbbjnaiaaGreatDoor
open Go.RowKit
namespace RX
section
variable{s:List Int}{alt:St->List aA×St}{st:St}
theorem vE(h:aR s st 0=42\/aR s st 0=43\/aR s st 0=63\/aR s st 0=123):di s alt st=([],st.fail 5 st.at_):=by unfold di;simp only[av h]
theorem Ml(h:aR s st 0=40):di s alt st=dP s alt st:=by unfold di;simp[h]
theorem JN(h:aR s st 0=91):di s alt st=gZ s (st.bump 1):=by unfold di;simp[h]
theorem QH(h:aR s st 0=92):di s alt st=bL s st:=by unfold di;simp[h]
theorem QI(h:aR s st 0=46):di s alt st=([node 2 0 0 false true [10,10]],st.bump 1):=by unfold di;simp[h]
theorem QJ(a:aR s st 0≠42)(d:aR s st 0≠43)(e:aR s st 0≠63)(f:aR s st 0≠123)(h:aR s st 0≠40)(i:aR s st 0≠91)(j:aR s st 0≠92)(k:aR s st 0≠46):di s alt st=([node 2 0 0 false false [aR s st 0,aR s st 0]],st.bump 1):=by unfold di;simp[a,d,e,f,h,i,j,k]
theorem JO(h:aR s st 0=94):bU s alt st=([node 3 0 0 false false []],st.bump 1):=by unfold bU;simp[h]
theorem QK(h:aR s st 0=36):bU s alt st=([node 4 0 0 false false []],st.bump 1):=by unfold bU;simp[h]
theorem Mm(a:aR s st 0≠94)(d:aR s st 0≠36):bU s alt st=if(di s alt st).2.ok then cK s (di s alt st).1 (di s alt st).2 else([],(di s alt st).2):=by unfold bU;simp only[ae a,ae d]
end
end RX
section
variable{w0:World}{rb:Nat}{sv:Value}{s:List Int}
theorem Tx(w:World)(st:RX.St)(alt:RX.St->List RX.aA×RX.St)(m:Env w0 rb sv s w st)(r:st.ok=true)(u:st.at_<s.length)(z:st.aC<=9){c:Nat}{d:Int}(I:RX.dV s c d alt)(M:c<=20)(N:d<=100)(A:0<=d)(O:st.op<12->Mk w0 rb sv s alt (st.op+1)):Calls Tryz.prog 154 #[.pointer (some ⟨rb,0,none⟩)] w (mH (fun w' v=>dI (rb+1) (rb+1) w' v (RX.di s alt st).1) rb sv w (RX.di s alt st).2 (s.length+30)):=by
 have f:=jd (jr.start m);have Y:=m.len;have J:=jd (fun w m=>QL (w0:=w0) (rb:=rb) (sv:=sv) (s:=s) w st alt m r u z I M N O);have K:=jd (fun w m=>Mo (w0:=w0) (rb:=rb) (sv:=sv) (s:=s) w (st.bump 1) m u z);have L:=jd (fun w m=>JP (w0:=w0) (rb:=rb) (sv:=sv) (s:=s) w st m (by omega));have X:=jd (show(RX.dP s alt st).2.at_<=s.length+30 by have:=(RX.Dt I A r u z).1.hi;omega);clear m I O r N M A;have a:=f.o.env.rs;have c1:=a.c1;have c2:=a.c2;have c3:=a.c3;have f1:=a.fr 1;have G:=a.fr 2;have H:=a.fr 3;have p:=f.o.jk;clear a;rcases P:(RX.aR s st 0==42)with _|_;rcases B:(RX.aR s st 0==43)with _|_;rcases C:(RX.aR s st 0==63)with _|_;rcases Q:(RX.aR s st 0==123)with _|_;rcases R:(RX.aR s st 0==40)with _|_;rcases S:(RX.aR s st 0==91)with _|_;rcases T:(RX.aR s st 0==92)with _|_;rcases D:(RX.aR s st 0==46)with _|_
 .have h:=jd (RX.QJ (alt:=alt) (uj.1 P) (uj.1 B) (uj.1 C) (uj.1 Q) (uj.1 R) (uj.1 S) (uj.1 T) (uj.1 D));go_enter Tryz.func154,Tryz.ntmps154;go_wp2_with(first|(go_at_call 139;apply aM;apply iH (w0:=w0) (rb:=rb) (sv:=sv) (s:=s);(apply gF;(focus(repeat(first|exact f.o|apply bM|apply bO|apply cO|apply cZ|apply bY|apply df))));(first|omega|(simp only[RX.St.bump]at*;omega));rintro e w'⟨rfl,n,rfl⟩));go_ret;rw[h.o];have E:=bO (bM (n:=n) f.o);refine jo (E.alloc.alloc).env.rs (E.alloc.alloc).only (by show st.at_+1<=_;omega) ?_ rfl;refine uk _ (RX.node 2 0 0 false false [RX.aR s st 0,RX.aR s st 0]) _ _ (by simp) (by simp;omega) (CR.mk ?_);exact xJ (by simp) (by simp;omega)
 .have h:=jd (RX.QI (alt:=alt) (nM.1 D));go_enter Tryz.func154,Tryz.ntmps154;go_wp2_with(first|(go_at_call 139;apply aM;apply iH (w0:=w0) (rb:=rb) (sv:=sv) (s:=s);(apply gF;(focus(repeat(first|exact f.o|apply bM|apply bO|apply cO|apply cZ|apply bY|apply df))));(first|omega|(simp only[RX.St.bump]at*;omega));rintro e w'⟨rfl,n,rfl⟩));go_ret;rw[h.o];have E:=bO (bM (n:=n) f.o);refine jo (E.alloc.alloc).env.rs (E.alloc.alloc).only (by show st.at_+1<=_;omega) ?_ rfl;refine uk _ (RX.node 2 0 0 false true [10,10]) _ _ (by simp) (by simp;omega) (CR.mk ?_);exact xJ (by simp) (by simp;omega)
 .have h:=jd (RX.QH (alt:=alt) (nM.1 T));go_enter Tryz.func154,Tryz.ntmps154;go_wp2_with(first|(go_at_call 139;apply aM;apply iH (w0:=w0) (rb:=rb) (sv:=sv) (s:=s);(apply gF;(focus(repeat(first|exact f.o|apply bM|apply bO|apply cO|apply cZ|apply bY|apply df))));(first|omega|(simp only[RX.St.bump]at*;omega));rintro e w'⟨rfl,n,rfl⟩)|(go_at_call 162;refine(L.o _ ?hen).mono ?_;(case hen=>(apply gF;(focus(repeat(first|exact f.o|apply bM|apply bO|apply cO|apply cZ|apply bY|apply df)))));rintro e w'⟨v,rfl,i,j,k,t⟩;have f:=jd (jr.call (by(focus(repeat(first|exact f.o|apply bM|apply bO|apply cO|apply cZ|apply bY|apply df)))) j k);have a:=f.o.env.rs;have c1:=a.c1;have c2:=a.c2;have c3:=a.c3;have f1:=a.fr 1;have G:=a.fr 2;have H:=a.fr 3;have p:=f.o.jk;clear a;clear j k t;obtain⟨U,V,rfl,_⟩:=i.form;have F:=jd i;clear i));go_ret;rw[h.o];exact jo f.o.env.rs f.o.only (by have:=(RX.Bu (s:=s) u z).hi;omega) F.o rfl
 .have h:=jd (RX.JN (alt:=alt) (nM.1 S));go_enter Tryz.func154,Tryz.ntmps154;go_wp2_with(first|(go_at_call 139;apply aM;apply iH (w0:=w0) (rb:=rb) (sv:=sv) (s:=s);(apply gF;(focus(repeat(first|exact f.o|apply bM|apply bO|apply cO|apply cZ|apply bY|apply df))));(first|omega|(simp only[RX.St.bump]at*;omega));rintro e w'⟨rfl,n,rfl⟩)|(go_at_call 161;refine(K.o _ ?hen).mono ?_;(case hen=>(apply gF;(focus(repeat(first|exact f.o|apply bM|apply bO|apply cO|apply cZ|apply bY|apply df)))));rintro e w'⟨v,rfl,i,j,k,t⟩;have f:=jd (jr.call (by(focus(repeat(first|exact f.o|apply bM|apply bO|apply cO|apply cZ|apply bY|apply df)))) j k);have a:=f.o.env.rs;have c1:=a.c1;have c2:=a.c2;have c3:=a.c3;have f1:=a.fr 1;have G:=a.fr 2;have H:=a.fr 3;have p:=f.o.jk;clear a;clear j k t;obtain⟨U,V,rfl,_⟩:=i.form;have F:=jd i;clear i));go_ret;rw[h.o];exact jo f.o.env.rs f.o.only (by have:=(RX.xK (s:=s) (st:=st.bump 1) u z).hi;omega) F.o rfl
 .have h:=jd (RX.Ml (alt:=alt) (nM.1 R));go_enter Tryz.func154,Tryz.ntmps154;go_wp2_with(first|(go_at_call 139;apply aM;apply iH (w0:=w0) (rb:=rb) (sv:=sv) (s:=s);(apply gF;(focus(repeat(first|exact f.o|apply bM|apply bO|apply cO|apply cZ|apply bY|apply df))));(first|omega|(simp only[RX.St.bump]at*;omega));rintro e w'⟨rfl,n,rfl⟩)|(go_at_call 160;refine(J.o _ ?hen).mono ?_;(case hen=>(apply gF;(focus(repeat(first|exact f.o|apply bM|apply bO|apply cO|apply cZ|apply bY|apply df)))));rintro e w'⟨v,rfl,i,j,k,t⟩;have f:=jd (jr.call (by(focus(repeat(first|exact f.o|apply bM|apply bO|apply cO|apply cZ|apply bY|apply df)))) j k);have a:=f.o.env.rs;have c1:=a.c1;have c2:=a.c2;have c3:=a.c3;have f1:=a.fr 1;have G:=a.fr 2;have H:=a.fr 3;have p:=f.o.jk;clear a;clear j k t;obtain⟨U,V,rfl,_⟩:=i.form;have F:=jd i;clear i));go_ret;rw[h.o];exact jo f.o.env.rs f.o.only X.o F.o rfl
 focus
  have h:=jd (RX.vE (alt:=alt) (.inr (.inr (.inr (nM.1 Q)))))
 rotate_left;focus
  have h:=jd (RX.vE (alt:=alt) (.inr (.inr (.inl (nM.1 C)))))
 rotate_left;focus
  have h:=jd (RX.vE (alt:=alt) (.inr (.inl (nM.1 B))))
 rotate_left;focus
  have h:=jd (RX.vE (alt:=alt) (.inl (nM.1 P)))
 rotate_left;all_goals
  go_enter Tryz.func154,Tryz.ntmps154;go_wp2_with(first|(go_at_call 139;apply aM;apply iH (w0:=w0) (rb:=rb) (sv:=sv) (s:=s);(apply gF;(focus(repeat(first|exact f.o|apply bM|apply bO|apply cO|apply cZ|apply bY|apply df))));(first|omega|(simp only[RX.St.bump]at*;omega));rintro e w'⟨rfl,n,rfl⟩)|(go_at_call 123;apply aM;apply gW (w0:=w0) (rb:=rb) (sv:=sv) (s:=s);(apply gF;(focus(repeat(first|exact f.o|apply bM|apply bO|apply cO|apply cZ|apply bY|apply df))));rintro e w'⟨rfl,j,k,t⟩;have f:=jd (jr.call (by(focus(repeat(first|exact f.o|apply bM|apply bO|apply cO|apply cZ|apply bY|apply df)))) j k);have a:=f.o.env.rs;have c1:=a.c1;have c2:=a.c2;have c3:=a.c3;have f1:=a.fr 1;have G:=a.fr 2;have H:=a.fr 3;have p:=f.o.jk;clear a;clear j k t));go_ret;rw[h.o];exact jo f.o.env.rs f.o.only (by rw[RX.St.jK];omega) aS rfl
theorem Ty(w:World)(st:RX.St)(alt:RX.St->List RX.aA×RX.St)(u:Env w0 rb sv s w st)(j:st.ok=true)(K:st.at_<s.length)(L:st.aC<=9){c:Nat}{d:Int}(I:RX.dV s c d alt)(V:c<=20)(P:d<=100)(k:0<=d)(Q:st.op<12->Mk w0 rb sv s alt (st.op+1)):Calls Tryz.prog 147 #[.pointer (some ⟨rb,0,none⟩)] w (mH (fun w' v=>dI (rb+1) (rb+1) w' v (RX.bU s alt st).1) rb sv w (RX.bU s alt st).2 (s.length+30)):=by
 have h:=jd (jr.start u);have oF:=u.len;have z:=RX.zO I k j K L;have E:=RX.lV I k j K L;have X:=jd E.1;have M:(RX.di s alt st).2.at_<=s.length+(c+1):=z.1.hi;have F:=JQ z.2.1 (by omega) (by omega);have A:=jd (fun w u=>Tx (w0:=w0) (rb:=rb) (sv:=sv) (s:=s) w st alt u j K L I V P k Q);have G:=jd (fun w Y(u:Env w0 rb sv s w (RX.di s alt st).2)i=>Mr (w0:=w0) (rb:=rb) (sv:=sv) (s:=s) w (RX.di s alt st).2 (RX.di s alt st).1 Y u (by omega) i F);clear u I Q j P k z E F;have f:=h.o.env.rs;have c1:=f.c1;have c2:=f.c2;have c3:=f.c3;have f1:=f.fr 1;have N:=f.fr 2;have O:=f.fr 3;have B:=h.o.jk;clear f;rcases R:(RX.aR s st 0==94)with _|_;rcases S:(RX.aR s st 0==36)with _|_
 .have C:=jd (RX.Mm (alt:=alt) (uj.1 R) (uj.1 S));generalize RX.di s alt st=a at A G C M;rcases m:a.2.ok with _|_
  .go_enter Tryz.func147,Tryz.ntmps147;go_wp2_with(first|(go_at_call 139;apply aM;apply iH (w0:=w0) (rb:=rb) (sv:=sv) (s:=s);(apply gF;(focus(repeat(first|exact h.o|apply bM|apply bO|apply cO|apply cZ|apply bY|apply df))));(first|omega|(simp only[RX.St.bump]at*;omega));rintro e w'⟨rfl,n,rfl⟩)|(go_at_call 154;refine(A.o _ ?hen).mono ?_;(case hen=>(apply gF;(focus(repeat(first|exact h.o|apply bM|apply bO|apply cO|apply cZ|apply bY|apply df)))));rintro e w'⟨v,rfl,i,p,r,H⟩;have h:=jd (jr.call (by(focus(repeat(first|exact h.o|apply bM|apply bO|apply cO|apply cZ|apply bY|apply df)))) p r);have f:=h.o.env.rs;have c1:=f.c1;have c2:=f.c2;have c3:=f.c3;have f1:=f.fr 1;have N:=f.fr 2;have O:=f.fr 3;have B:=h.o.jk;clear f;clear p r H;obtain⟨T,U,rfl,_⟩:=i.form;have J:=jd i;clear i)|(go_at_call 122;apply aM;apply fF (w0:=w0) (rb:=rb) (sv:=sv) (s:=s);(apply gF;(focus(repeat(first|exact h.o|apply bM|apply bO|apply cO|apply cZ|apply bY|apply df))));rintro e w'⟨rfl,n,rfl⟩));go_ret;have D:=C.o;rw[m,ae (by decide)]at D;rw[D];have t:=bM (n:=n) h.o;exact jo t.env.rs t.only (by omega) aS rfl
  .go_enter Tryz.func147,Tryz.ntmps147;go_upto_region 11 with(first|(go_at_call 139;apply aM;apply iH (w0:=w0) (rb:=rb) (sv:=sv) (s:=s);(apply gF;(focus(repeat(first|exact h.o|apply bM|apply bO|apply cO|apply cZ|apply bY|apply df))));(first|omega|(simp only[RX.St.bump]at*;omega));rintro e w'⟨rfl,n,rfl⟩)|(go_at_call 154;refine(A.o _ ?hen).mono ?_;(case hen=>(apply gF;(focus(repeat(first|exact h.o|apply bM|apply bO|apply cO|apply cZ|apply bY|apply df)))));rintro e w'⟨v,rfl,i,p,r,H⟩;have h:=jd (jr.call (by(focus(repeat(first|exact h.o|apply bM|apply bO|apply cO|apply cZ|apply bY|apply df)))) p r);have f:=h.o.env.rs;have c1:=f.c1;have c2:=f.c2;have c3:=f.c3;have f1:=f.fr 1;have N:=f.fr 2;have O:=f.fr 3;have B:=h.o.jk;clear f;clear p r H;obtain⟨T,U,rfl,_⟩:=i.form;have J:=jd i;clear i)|(go_at_call 122;apply aM;apply fF (w0:=w0) (rb:=rb) (sv:=sv) (s:=s);(apply gF;(focus(repeat(first|exact h.o|apply bM|apply bO|apply cO|apply cZ|apply bY|apply df))));rintro e w'⟨rfl,n,rfl⟩));have h:=jd (jr.JS h.o J.o);go_wp2_with(first|(go_at_call 155;refine(G.o _ _ ?hen ?hvv).mono ?_;(case hen=>(apply gF;(focus(repeat(first|exact h.o|apply bM|apply bO|apply cO|apply cZ|apply bY|apply df)))));(case hvv=>(apply jr.val;(focus(repeat(first|exact h.o|apply bM|apply bO|apply cO|apply cZ|apply bY|apply df)))));rintro e w'⟨v,rfl,i,p,r,H⟩;have h:=jd (jr.call (by(focus(repeat(first|exact h.o|apply bM|apply bO|apply cO|apply cZ|apply bY|apply df)))) p r);have f:=h.o.env.rs;have c1:=f.c1;have c2:=f.c2;have c3:=f.c3;have f1:=f.fr 1;have N:=f.fr 2;have O:=f.fr 3;have B:=h.o.jk;clear f;clear p r H;obtain⟨T,U,rfl,_⟩:=i.form;have J:=jd i;clear i));go_ret;have D:=C.o;rw[m,av rfl]at D;have Z:=X.o.hi;rw[D]at Z;rw[D];exact jo h.o.env.rs h.o.only (by omega) J.o rfl
 .have C:=jd (RX.QK (alt:=alt) (nM.1 S));go_enter Tryz.func147,Tryz.ntmps147;go_wp2_with(first|(go_at_call 139;apply aM;apply iH (w0:=w0) (rb:=rb) (sv:=sv) (s:=s);(apply gF;(focus(repeat(first|exact h.o|apply bM|apply bO|apply cO|apply cZ|apply bY|apply df))));(first|omega|(simp only[RX.St.bump]at*;omega));rintro e w'⟨rfl,n,rfl⟩));go_ret;rw[C.o];have t:=bO (bM (n:=n) h.o);refine jo t.alloc.env.rs t.alloc.only (by show st.at_+1<=_;omega) ?_ rfl;exact uk _ (RX.node 4 0 0 false false []) _ _ (by simp) (by simp;omega) CR.FW
 .have C:=jd (RX.JO (alt:=alt) (nM.1 R));go_enter Tryz.func147,Tryz.ntmps147;go_wp2_with(first|(go_at_call 139;apply aM;apply iH (w0:=w0) (rb:=rb) (sv:=sv) (s:=s);(apply gF;(focus(repeat(first|exact h.o|apply bM|apply bO|apply cO|apply cZ|apply bY|apply df))));(first|omega|(simp only[RX.St.bump]at*;omega));rintro e w'⟨rfl,n,rfl⟩));go_ret;rw[C.o];have t:=bO (bM (n:=n) h.o);refine jo t.alloc.env.rs t.alloc.only (by show st.at_+1<=_;omega) ?_ rfl;exact uk _ (RX.node 3 0 0 false false []) _ _ (by simp) (by simp;omega) CR.FW
end
theorem ay.aaE{α:Type}{t sz B b:Nat}{C:World->List Value->α->Prop}{w w':World}{v:Value}{xs:List α}(h:ay t sz C B w v xs)(j:xI b C)(m:b<=B)(i:qJ b w w'):ay t sz C B w' v xs:=by
 obtain⟨flat,⟨p,a⟩,r⟩:=h;refine⟨flat,⟨p,?_⟩,fun k x s=>?_⟩
 .rcases a with u|⟨g,e,f,z,d,A,rest⟩
  .exact .inl u
  .exact .inr ⟨g,e,f,z,d,i g _ (aG m d) A,rest⟩
 .obtain⟨D,E,F⟩:=r k x s;exact⟨D,j _ _ _ _ i E,F⟩
section
variable{w0:World}{rb:Nat}{sv:Value}{s:List Int}
structure lJ(w0:World)(rb:Nat)(sv:Value)(s:List Int)(w:World)(st:RX.St)(v:Value)(rows:List (List RX.aA))(wr:World):Prop where
 env:Env w0 rb sv s wr st
 only:Only w wr rb
 own:ay 99 1 (CL (rb+1)) w.heap.size wr v rows
 le:rb+1<=w.heap.size
variable{w wr w':World}{st st':RX.St}{v v':Value}{rows rows':List (List RX.aA)}
theorem lJ.step(h:lJ w0 rb sv s w st v rows wr)(d:Env w0 rb sv s w' st')(a:Only wr w' rb):lJ w0 rb sv s w st' v rows w':=⟨d,h.only.trans a,h.own.aaE (Uf _) h.le (qJ.only a),h.le⟩
theorem lJ.drewN{n:Nat}(h:lJ w0 rb sv s w st v rows wr):lJ w0 rb sv s w st v rows (wr.drewN n):=h.step (h.env.drewN n) ((aJ _ _).drewN n)
abbrev jN:=@lJ.drewN
theorem lJ.bump(h:lJ w0 rb sv s w st v rows wr):lJ w0 rb sv s w (st.bump 1) v rows (wr.setCell ⟨rb,1,none⟩ (.int .i64 ((st.at_:Int)+1))):=h.step h.env.bZ ((aJ _ _).set _)
abbrev jO:=@lJ.bump
theorem lJ.alloc{o:Obj}(h:lJ w0 rb sv s w st v rows wr):lJ w0 rb sv s w st v rows (wr.alloc o):=h.step (h.env.alloc o) ((aJ _ _).alloc o)
abbrev je:=@lJ.alloc
theorem lJ.call(h:lJ w0 rb sv s w st v rows wr)(d:RS rb sv w' st')(a:Only wr w' rb):lJ w0 rb sv s w st' v rows w':=h.step (h.env.step a d) a
theorem lJ.ext(h:lJ w0 rb sv s w st v rows wr)(a:Ext wr w'):lJ w0 rb sv s w st v rows w':=h.step (h.env.ext a) (iO a rb)
theorem lJ.jk(h:lJ w0 rb sv s w st v rows wr):rb<wr.heap.size:=ag h.env.rs
theorem lJ.start(a:Env w0 rb sv s w st):lJ w0 rb sv s w st (.slice none 0 0) [] w:=⟨a,aJ w rb,dO,a.jk⟩
theorem lJ.app(h:lJ w0 rb sv s w st v rows wr)(e:ay 99 1 (CL (rb+1)) w.heap.size w' v' rows')(d:wr.grownBy w' v.ownBlock):lJ w0 rb sv s w st v' rows' w':=⟨Env.own (nb:=rb+1) h.env d (fun k a=>aG h.le (h.own.lt k a).1) (by omega),Only.own (nb:=w.heap.size) h.only d (fun k a=>(h.own.lt k a).1) (az _),e,h.le⟩
theorem Gl{x:Int}(h:RX.fV x=true):x=-1\/(x≠-1/\x=124)\/(x≠-1/\x≠124/\x=41):=by unfold RX.fV at h;simp at h;omega
theorem LB{x:Int}(h:RX.fV x=false):x≠-1/\x≠124/\x≠41:=by unfold RX.fV at h;simp at h;omega
namespace RX
variable{alt:St->List aA×St}
theorem LC{k:Nat}{st:St}{items:List (List aA)}(h:st.ok=false):bD s alt k st items=([],st):=by
 cases k with
 |zero=>rfl
 |succ k=>unfold bD;rw[h];rfl
theorem LD{k:Nat}{st:St}{items:List (List aA)}(h:st.ok=true)(a:fV (aR s st 0)=true):bD s alt (k+1) st items=(under (node 0 0 0 false false []) items,st):=by unfold bD;rw[h,a];rfl
theorem OA{k:Nat}{st:St}{items:List (List aA)}(h:st.ok=true)(a:fV (aR s st 0)=false):bD s alt (k+1) st items=bD s alt k (bU s alt st).2 (items++[(bU s alt st).1]):=by rw[bD,h,a];rfl
end RX
theorem O9(w:World)(st:RX.St)(alt:RX.St->List RX.aA×RX.St)(H:Env w0 rb sv s w st)(ha:st.at_<=s.length)(h9:st.aC<=9){c:Nat}{d:Int}(C:RX.dV s c d alt)(hc:c<=20)(I:d<=100)(m:0<=d)(HA:st.op<12->Mk w0 rb sv s alt (st.op+1)):Calls Tryz.prog 138 #[.pointer (some ⟨rb,0,none⟩)] w (mH (fun w' v=>dI (rb+1) (rb+1) w' v (RX.rowP s alt st).1) rb sv w (RX.rowP s alt st).2 (s.length+30)):=by
 have a:=jd (lJ.start H);have oF:=H.len;have H9:=jd (And.intro C (And.intro hc (And.intro I (And.intro m HA))));have HB:=jd (RX.jm C m ha h9).1;have t:=jd (RX.iC.refl (s:=s) (c+1) ha h9);obtain⟨R,X⟩:∃R,RX.rowP s alt st=R:=⟨_,rfl⟩;rw[X]at HB;have HR:=jd X;clear H C I m HA X;rw[HR.o];go_enter Tryz.func138,Tryz.ntmps138;go_wp2_with fail;go_loopg[3](s.length+2-st.at_)(fun k v wr=>∃(st':RX.St)(items:List (List RX.aA)),lJ w0 rb sv s w st' v items wr/\RX.bD s alt k st' items=R/\RX.iC s (c+1) st st'/\(st'.ok=true->s.length+1<=k+st'.at_/\items.length<=st'.at_-st.at_)/\items.length<=200/\(∀l∈items,∀x∈l,0<=x.deep/\x.deep<=d+2)/\items.flatten.length<=2*(st'.at_-st.at_));case atStart=>exact⟨st,[],a.o,HR.o,t.o,fun _=>⟨by omega,by simp⟩,by simp,by simp,by simp⟩
 case round=>
  obtain⟨st',items,D,J,E,F,hil,K,hfl⟩:=hrel;have a:=jd D;have Y:=jd J;have t:=jd E;have HD:=jd F;have HP:=jd K;have hat:st'.at_<=s.length+(c+1):=E.hi;obtain⟨Ai,ci,rfl,hci,hcm⟩:=D.own.form;clear D J F K E;have f:=a.o.env.rs;have c1:=f.c1;have f1:=f.fr 1;have L:=a.o.jk;clear f;rcases p:st'.ok with _|_
  .go_wp2_with(first|(go_at_call 122;apply aM;apply fF (w0:=w0) (rb:=rb) (sv:=sv) (s:=s);(apply lJ.env;(focus(repeat(first|exact a.o|apply jN|apply jO|apply je))));rintro e w'⟨rfl,n,rfl⟩));go_ret;have z:=Y.o;rw[RX.LC p]at z;rw[<-z];have S:=a.o.drewN (n:=n);exact jo S.env.rs S.only (by omega) aS rfl
  .obtain⟨F,aft⟩:=HD.o p;have adj:=t.o.yA p;obtain⟨k,rfl⟩:∃k,gk=k+1:=⟨gk-1,by omega⟩;rcases i:RX.fV (RX.aR s st' 0)with _|_
   .have r:=LB i;have M:=RX.dN (k:=0) r.1;obtain⟨C,hc2,I,m,N⟩:=H9.o;have O:st'.op=st.op:=t.o.op;have j:=RX.lV C m p M t.o.dL;have P:=jd (fun w H=>Ty (w0:=w0) (rb:=rb) (sv:=sv) (s:=s) w st' alt H p M t.o.dL C hc I m (O▸N));have HI:=jd j;have T:=jd (show RX.bD s alt k (RX.bU s alt st').2 (items++[(RX.bU s alt st').1])=R by rw[<-Y.o,RX.OA p i]);generalize RX.bU s alt st'=U at P HI T;have Z:(RX.aR s st' 0==-1)=false:=by simpa using r.1
    have b2:(RX.aR s st' 0==124)=false:=by simpa using r.2.1
    have b3:(RX.aR s st' 0==41)=false:=by simpa using r.2.2
    clear C I m N O j r i;go_wp2_with(first|(go_at_call 122;apply aM;apply fF (w0:=w0) (rb:=rb) (sv:=sv) (s:=s);(apply lJ.env;(focus(repeat(first|exact a.o|apply jN|apply jO|apply je))));rintro e w'⟨rfl,n,rfl⟩)|(go_at_call 139;apply aM;apply iH (w0:=w0) (rb:=rb) (sv:=sv) (s:=s);(apply lJ.env;(focus(repeat(first|exact a.o|apply jN|apply jO|apply je))));(first|omega|(simp only[RX.St.bump]at*;omega));rintro e w'⟨rfl,n,rfl⟩)|(go_at_call 147;refine(P.o _ ?hen).mono ?_;(case hen=>(apply lJ.env;(focus(repeat(first|exact a.o|apply jN|apply jO|apply je)))));rintro e w'⟨v,rfl,hv,hr,V,hb⟩;have a:=jd (lJ.call (by(focus(repeat(first|exact a.o|apply jN|apply jO|apply je)))) hr V);have f:=a.o.env.rs;have c1:=f.c1;have f1:=f.fr 1;have L:=a.o.jk;clear f;clear hr V hb;obtain⟨Aa,ca,rfl,_⟩:=hv.form;have HV:=jd hv;clear hv)|(at_builtin;refine CQ Tryz.underlying168 vD rfl Nat.one_pos ?hby (Pb (rb+1)) ?hT rfl _ _ rfl w.heap.size _ items U.1 [.slice Aa U.1.length ca] 99 ?hown ?hy rfl ?h1 rfl _ rfl ?hnb ?hn ?hB ?_;(case hby=>decide);(case hT=>decide);(case hown=>(apply lJ.own;(focus(repeat(first|exact a.o|apply jN|apply jO|apply je)))));(case hy=>exact⟨_,rfl,HV.o⟩);(case h1=>(intro u hu;simp at hu;subst hu;rfl));(case hnb=>(first|rfl|simp));(case hn=>omega);(case hB=>exact a.o.only.size);intro v' w' h1 Q;have z:=lJ.app (je a.o) h1 Q;obtain⟨Ax,cx,rfl,hcx,hcy⟩:=h1.form;have S:=jd z;clear h1 Q z));go_roundg k;case measure=>omega
    case rel=>
     have j:=HI.o;have z:=S.o;rw[ai]at z;refine⟨U.2,items++[U.1],z,T.o,t.o.trans j.1,fun V=>?_,?_,?_,?_⟩
     .have:=j.2.2 V;have:=t.o.mono;rw[ai];simp only[aF,aN];omega
     .rw[ai];simp only[aF,aN];omega
     .intro l A x G;rcases iN.1 A with A|A
      .exact HP.o l A x G
      .simp at A;subst A;exact j.2.1.2 x G
     .rw[qK,ai,Dr];have:=j.2.1.1;have:=j.1.mono;have:=t.o.mono;omega
   .have T:=jd (show(RX.under (RX.node 0 0 0 false false []) items,st')=R by rw[<-Y.o,RX.LD p i]);have HS:=jd (show Small (RX.node 0 0 0 false false []) items from⟨by rw[RX.dZ];omega,fun l A x G=>by have:=HP.o l A x G;have:=H9.o.2.2.1;omega⟩);rcases Gl i with h|⟨h1,h⟩|⟨h1,Q,h⟩;focus
     have Z:(RX.aR s st' 0==-1)=true:=by simpa using h
     clear h i
    rotate_left;focus
     have Z:(RX.aR s st' 0==-1)=false:=by simpa using h1
     have b2:(RX.aR s st' 0==124)=true:=by simpa using h
     clear h h1 i
    rotate_left;focus
     have Z:(RX.aR s st' 0==-1)=false:=by simpa using h1
     have b2:(RX.aR s st' 0==124)=false:=by simpa using Q
     have b3:(RX.aR s st' 0==41)=true:=by simpa using h
     clear h h1 Q i
    rotate_left;all_goals
     go_wp2_with(first|(go_at_call 122;apply aM;apply fF (w0:=w0) (rb:=rb) (sv:=sv) (s:=s);(apply lJ.env;(focus(repeat(first|exact a.o|apply jN|apply jO|apply je))));rintro e w'⟨rfl,n,rfl⟩)|(go_at_call 139;apply aM;apply iH (w0:=w0) (rb:=rb) (sv:=sv) (s:=s);(apply lJ.env;(focus(repeat(first|exact a.o|apply jN|apply jO|apply je))));(first|omega|(simp only[RX.St.bump]at*;omega));rintro e w'⟨rfl,n,rfl⟩)|(go_at_call 140;apply aM;apply vC (B:=rb+1);apply CR.FW;(exact jq (ay.sl (lJ.own (by(focus(repeat(first|exact a.o|apply jN|apply jO|apply je)))))) a.o.le);exact HS.o;rintro e w'⟨vr,rfl,hown,G⟩;have HV:=jd (jq (base':=rb+1) hown.sl (by(focus(first|omega|(simp;omega)))));have a:=jd (lJ.ext (by(focus(repeat(first|exact a.o|apply jN|apply jO|apply je)))) G);have f:=a.o.env.rs;have c1:=f.c1;have f1:=f.fr 1;have L:=a.o.jk;clear f;clear G hown));go_ret;rw[<-T.o];exact jo a.o.env.rs a.o.only (by omega) HV.o rfl
end
namespace RX
variable{s:List Int}{alt:St->List aA×St}
theorem JL{k:Nat}{st:St}{a:List (List aA)}(h:(st.ok&&decide (aR s st 0=124))=false):bA s alt k st a=(a,st):=by
 cases k with
 |zero=>rfl
 |succ k=>unfold bA;rw[h];rfl
theorem Mj{k:Nat}{st:St}{a:List (List aA)}(h:(st.ok&&decide (aR s st 0=124))=true):bA s alt (k+1) st a=bA s alt k (rowP s alt (st.bump 1)).2 (a++[(rowP s alt (st.bump 1)).1]):=by rw[bA,av h]
def joined(rows:List (List aA)):List aA:=if rows.length=1 then rows.headD []else under (node 1 0 0 false false []) rows
theorem O7(st:St):oD s alt st=(joined (bA s alt (s.length+2-(rowP s alt st).2.at_) (rowP s alt st).2 [(rowP s alt st).1]).1,(bA s alt (s.length+2-(rowP s alt st).2.at_) (rowP s alt st).2 [(rowP s alt st).1]).2):=rfl
end RX
theorem ZJ(x:Int):(x==124)=(true&&decide (x=124)):=by simp;rfl
section
variable{w0:World}{rb:Nat}{sv:Value}{s:List Int}
theorem O8(w:World)(st:RX.St)(alt:RX.St->List RX.aA×RX.St)(E:Env w0 rb sv s w st)(hok:st.ok=true)(ha:st.at_<=s.length)(h9:st.aC<=9){c:Nat}{d:Int}(z:RX.dV s c d alt)(hc:c<=20)(S:d<=100)(j:0<=d)(HA:st.op<12->Mk w0 rb sv s alt (st.op+1)):Calls Tryz.prog 121 #[.pointer (some ⟨rb,0,none⟩)] w (mH (fun w' v=>dI (rb+1) (rb+1) w' v (RX.oD s alt st).1) rb sv w (RX.oD s alt st).2 (s.length+30)):=by
 have f:=jd (lJ.start E);have oF:=E.len;have p:=E.jk;have H9:=jd (And.intro z (And.intro hc (And.intro S (And.intro j HA))));have HB:=jd (RX.Ij z j st hok ha h9).1;have H:=jd (RX.jm z j ha h9);have r:=jd (fun w E=>O9 (w0:=w0) (rb:=rb) (sv:=sv) (s:=s) w st alt E ha h9 z hc S j HA);rw[RX.O7]at HB;rw[RX.O7];generalize RX.rowP s alt st=m at r HB H⊢;obtain⟨R,hR⟩:∃R,RX.bA s alt (s.length+2-m.2.at_) m.2 [m.1]=R:=⟨_,rfl⟩;rw[hR]at HB;have HR:=jd hR;have adi:m.2.at_<=s.length+(c+1):=H.o.1.hi;clear E z S j HA hR;rw[HR.o];go_enter Tryz.func121,Tryz.ntmps121;go_wp2_with(first|(go_at_call 138;refine(r.o _ ?hen).mono ?_;(case hen=>(apply lJ.env;(focus(repeat(first|exact f.o|apply jN|apply jO|apply je)))));rintro e w'⟨v,rfl,I,V,F,T⟩;have f:=jd (lJ.call (by(focus(repeat(first|exact f.o|apply jN|apply jO|apply je)))) V F);have h:=f.o.env.rs;have c1:=h.c1;have f1:=h.fr 1;have p:=f.o.jk;clear h;clear V F T;obtain⟨X,Y,rfl,_⟩:=I.form;have J:=jd I;clear I));have HX:=jd (show lJ w0 rb sv s w m.2 (.slice (some ⟨w'.heap.size,0,none⟩) 1 1) [m.1] (w'.alloc (.cells #[.slice X m.1.length Y] 99))from⟨f.o.env.alloc _,f.o.only.alloc _,jP (sz:=1) (w:=w') _ [m.1] _ _ rfl rfl f.o.only.size (by simp) (by simp) (by intro k y hy;match k,hy with|0,hy=>simp at hy;subst hy;exact⟨[.slice X m.1.length Y],⟨_,rfl,aT.dW J.o (jQ _) (qJ.only ((aJ w' rb).alloc _))⟩,rfl,fun i u hu=>by simpa using hu⟩),f.o.le⟩);have f:=HX;clear c1 f1;go_loopg[3](s.length+2-m.2.at_)(fun k v wr=>∃(a:RX.St)(items:List (List RX.aA)),lJ w0 rb sv s w a v items wr/\RX.bA s alt k a items=R/\RX.iC s (c+1) st a/\(a.ok=true->s.length+1<=k+a.at_)/\items.length<=1+a.at_/\1<=items.length/\(∀l∈items,∀x∈l,0<=x.deep/\x.deep<=d+3)/\items.flatten.length<=2*(a.at_-st.at_)+1);case atStart=>
  refine⟨m.2,[m.1],f.o,HR.o,H.o.1,fun F=>?_,by simp,by simp,?_,?_⟩
  .have:=H.o.1.yA F;omega
  .intro l t x A;simp at t;subst t;exact H.o.2.2 x A
  .simpa using H.o.2.1
 case round=>
  obtain⟨a,items,K,Z,L,M,hil,ae2,hdp,hfl⟩:=hrel;have f:=jd K;have HL:=jd Z;have U:=jd L;have HD:=jd M;have HP:=jd hdp;have hat:a.at_<=s.length+(c+1):=L.hi;obtain⟨Ai,ci,rfl,hci,hcm⟩:=K.own.form;clear K Z M hdp L;have h:=f.o.env.rs;have c1:=h.c1;have f1:=h.fr 1;have p:=f.o.jk;clear h;go_upto_region 2 with fail;go_cut[13](fun s13 wx=>∃b,s13=.bool b/\b=(a.ok&&decide (RX.aR s a 0=124))/\lJ w0 rb sv s w a (.slice Ai items.length ci) items wx);case first=>
   rcases G:a.ok with _|_
   .go_wp2_with(first|(go_at_call 122;apply aM;apply fF (w0:=w0) (rb:=rb) (sv:=sv) (s:=s);(apply lJ.env;(focus(repeat(first|exact f.o|apply jN|apply jO|apply je))));rintro e w'⟨rfl,n,rfl⟩));go_meet;exact⟨_,rfl,by rw[G];rfl,by(focus(repeat(first|exact f.o|apply jN|apply jO|apply je)))⟩
   .go_wp2_with(first|(go_at_call 122;apply aM;apply fF (w0:=w0) (rb:=rb) (sv:=sv) (s:=s);(apply lJ.env;(focus(repeat(first|exact f.o|apply jN|apply jO|apply je))));rintro e w'⟨rfl,n,rfl⟩)|(go_at_call 139;apply aM;apply iH (w0:=w0) (rb:=rb) (sv:=sv) (s:=s);(apply lJ.env;(focus(repeat(first|exact f.o|apply jN|apply jO|apply je))));(first|omega|(simp only[RX.St.bump]at*;omega));rintro e w'⟨rfl,n,rfl⟩));go_meet;exact⟨_,rfl,by rw[G];exact ZJ _,by(focus(repeat(first|exact f.o|apply jN|apply jO|apply je)))⟩
  case rest=>
   obtain⟨b,rfl,T,hcc⟩:=hcut;have f:=jd hcc;have N:=jd T;clear hcc T;have h:=f.o.env.rs;have c1:=h.c1;have f1:=h.fr 1;have p:=f.o.jk;clear h;rcases b with _|_
   .have C:=HL.o;rw[RX.JL N.o.symm]at C;have HZ:=jd C;clear C;by_cases h1:items.length=1
    .have hb1:((items.length:Int)==1)=true:=by simp[h1]
     obtain⟨l1,O⟩:∃l,items=[l]:=by
      match items,h1 with
      |[l],_=>exact⟨l,rfl⟩
     have hJ:RX.joined items=l1:=by rw[O];rfl
     have Xg:=f.o.own.sl.at_ (k:=0) (by omega);obtain⟨g,o,cs,rfl,hcl,hce⟩:=Xg;obtain⟨va,rfl,D⟩:=hcl;have c0:=hce 0 va rfl;rw[Nat.zero_mul,fB]at c0;have hx0:items[0]=l1:=by simp[O]
     rw[hx0]at D;have J:=jd D;obtain⟨X,Y,rfl,_⟩:=D.form;have HJ:=jd (And.intro hJ h1);have hb2:0<items.length:=by omega
     clear D hce hJ hx0 O h1;go_wp2_with fail;go_ret;rw[<-HZ.o,HJ.o.1];exact jo f.o.env.rs f.o.only (by omega) J.o rfl
    .have hb1:((items.length:Int)==1)=false:=by simpa using(by omega:¬(items.length:Int)=1)
     have hJ:RX.joined items=RX.under (RX.node 1 0 0 false false []) items:=by unfold RX.joined;rw[ae h1]
     have HJ:=jd hJ;have HS:=jd (show Small (RX.node 1 0 0 false false []) items from⟨by rw[RX.dZ];omega,fun l t x A=>by have:=HP.o l t x A;have:=H9.o.2.2.1;omega⟩);clear hJ h1;go_wp2_with(first|(go_at_call 140;apply aM;apply vC (B:=rb+1);apply CR.FW;(exact jq (ay.sl (lJ.own (by(focus(repeat(first|exact f.o|apply jN|apply jO|apply je)))))) f.o.le);exact HS.o;rintro e w'⟨vr,rfl,hown,A⟩;have J:=jd (jq (base':=rb+1) hown.sl (by(focus(first|omega|(simp;omega)))));have f:=jd (lJ.ext (by(focus(repeat(first|exact f.o|apply jN|apply jO|apply je)))) A);have h:=f.o.env.rs;have c1:=h.c1;have f1:=h.fr 1;have p:=f.o.jk;clear h;clear A hown));go_ret;rw[<-HZ.o,HJ.o];exact jo f.o.env.rs f.o.only (by omega) J.o rfl
   .have h0:=N.o.symm;simp only[jR,jf]at h0;have M:=HD.o h0.1;have adj:=U.o.yA h0.1;obtain⟨k,rfl⟩:∃k,gk=k+1:=⟨gk-1,by omega⟩;have P:=RX.dN (s:=s) (k:=0) (st:=a) (by omega);have HF2:=jd (U.o.bump 1 P);obtain⟨z,hc2,S,j,hHA⟩:=H9.o;have hop:a.op=st.op:=U.o.op;have hrw:=RX.jm z j (st:=a.bump 1) P U.o.dL;have r:=jd (fun w E=>O9 (w0:=w0) (rb:=rb) (sv:=sv) (s:=s) w (a.bump 1) alt E P U.o.dL z hc S j (show a.op<12->Mk w0 rb sv s alt (a.op+1)from hop▸hHA));have HI:=jd hrw;have HZ:=jd (show RX.bA s alt k (RX.rowP s alt (a.bump 1)).2 (items++[(RX.rowP s alt (a.bump 1)).1])=R by rw[<-HL.o,RX.Mj N.o.symm]);clear H adi;generalize RX.rowP s alt (a.bump 1)=m at r HI HZ;have hm:a.at_+1<=m.2.at_:=HI.o.1.mono;clear z S j hHA hop hrw h0;go_wp2_with(first|(go_at_call 138;refine(r.o _ ?hen).mono ?_;(case hen=>(apply lJ.env;(focus(repeat(first|exact f.o|apply jN|apply jO|apply je)))));rintro e w'⟨v,rfl,I,V,F,T⟩;have f:=jd (lJ.call (by(focus(repeat(first|exact f.o|apply jN|apply jO|apply je)))) V F);have h:=f.o.env.rs;have c1:=h.c1;have f1:=h.fr 1;have p:=f.o.jk;clear h;clear V F T;obtain⟨X,Y,rfl,_⟩:=I.form;have J:=jd I;clear I)|(at_builtin;refine CQ Tryz.underlying168 vD rfl Nat.one_pos ?hby (Pb (rb+1)) ?hT rfl _ _ rfl w.heap.size _ items m.1 [.slice X m.1.length Y] 99 ?hown ?hy rfl ?h1 rfl _ rfl ?hnb ?hn ?hB ?_;(case hby=>decide);(case hT=>decide);(case hown=>(apply lJ.own;(focus(repeat(first|exact f.o|apply jN|apply jO|apply je)))));(case hy=>exact⟨_,rfl,J.o⟩);(case h1=>(intro u hu;simp at hu;subst hu;rfl));(case hnb=>(first|rfl|simp));(case hn=>omega);(case hB=>exact f.o.only.size);intro v' w' h1 h2;have C:=lJ.app (je f.o) h1 h2;obtain⟨Ax,cx,rfl,hcx,hcy⟩:=h1.form;have HX:=jd C;clear h1 h2 C));go_roundg k;case measure=>omega
    case rel=>
     have Q:=HI.o;have C:=HX.o;rw[ai]at C;refine⟨m.2,items++[m.1],C,HZ.o,HF2.o.trans Q.1,fun F=>?_,?_,?_,?_,?_⟩
     .omega
     .rw[ai];simp only[aF,aN];omega
     .rw[ai];simp only[aF,aN];omega
     .intro l t x A;rcases iN.1 t with t|t
      .exact HP.o l t x A
      .simp at t;subst t;exact Q.2.2 x A
     .rw[qK,ai,Dr];have h5:=Q.2.1;have h6:(a.bump 1).at_=a.at_+1:=rfl;have:=U.o.mono;omega
theorem Tw(s:List Int):∀(n op:Nat),op+n=12->Mk w0 rb sv s (RX.gV s n) op
|0,op,h=>fun w st e a f i j=>
 O8 w st _ e a f i (c:=1) (d:=0) RX.dV.stub (by omega) (by omega) (by omega) (fun k=>by omega)
|n+1,op,h=>fun w st e a f i j=>
 O8 w st _ e a f i (RX.rH s n) (by omega) (by omega) (by omega) (fun _=>Tw s n (st.op+1) (by omega))
end
end Go.Proofs.YtcogknbbbjnaiaaGreatDoor
