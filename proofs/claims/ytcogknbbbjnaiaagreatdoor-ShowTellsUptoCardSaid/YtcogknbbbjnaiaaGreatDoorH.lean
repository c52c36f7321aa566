/- For ShowTells: what the texts XPrs of wip/tpl say. -/
import Derived.Test.YtcogknbbbjnaiaaGreatDoorG
import Derived.Deep.DeepCutAuto
set_option maxHeartbeats 2000000
namespace Go.Proofs.YtcogknbbbjnaiaaGreatDoor
open Go.RowKit
theorem RS.bump{rb:Nat}{sv:Value}{w:World}{st:RX.St}(h:RS rb sv w st)(n:Nat):RS rb sv (w.setCell ⟨rb,1,none⟩ (.int .i64 ((st.at_:Int)+n))) (st.bump n):=aP h
theorem RS.bZ{rb:Nat}{sv:Value}{w:World}{st:RX.St}(h:RS rb sv w st):RS rb sv (w.setCell ⟨rb,1,none⟩ (.int .i64 ((st.at_:Int)+1))) (st.bump 1):=aP h
theorem BD{B:Nat}(w:World)(xs:List Int)(nb n:Nat)(a:nb=w.heap.size)(d:n=xs.length)(e:B<=w.heap.size)(f:xs.length<=1000):aT 21 1 Cc B (w.alloc (.cells (xs.map (Value.int .i32)).toArray 21)) (.slice (some ⟨nb,0,none⟩) n n) xs:=by subst a d;exact(zn w xs e f).sl
theorem uk{B:Nat}(w:World)(x:RX.aA)(cs:List Value)(nb:Nat)(d:nb=w.heap.size)(f:B<=w.heap.size)(e:CR B w cs x):dI B B (w.alloc (.cells cs.toArray 126)) (.slice (some ⟨nb,0,none⟩) 1 1) [x]:=by
 refine ay.sl (jP _ [x] _ _ d rfl f (by simp) (by simp[e.len]) ?_);intro k y a;match k,a with
 |0,a=>simp at a;subst a;exact⟨cs,dE B _ _ _ _ (au ((aa w).alloc _)) e,e.len,fun i u h=>by simpa using h⟩
theorem Env.bump{w0:World}{rb:Nat}{sv:Value}{s:List Int}{w:World}{st:RX.St}(a:Env w0 rb sv s w st)(n:Nat):Env w0 rb sv s (w.setCell ⟨rb,1,none⟩ (.int .i64 ((st.at_:Int)+n))) (st.bump n):=a.step ((aJ w rb).set (o:=1) (.int .i64 ((st.at_:Int)+n))) (a.rs.bump n)
theorem Env.alloc{w0:World}{rb:Nat}{sv:Value}{s:List Int}{w:World}{st:RX.St}(a:Env w0 rb sv s w st)(o:Obj):Env w0 rb sv s (w.alloc o) st:=a.step ((aJ w rb).alloc o) (a.rs.ext ((aa w).alloc o))
abbrev aX:=@Env.alloc
theorem Env.BG{w0:World}{rb:Nat}{sv:Value}{s:List Int}{w:World}{st:RX.St}(a:Env w0 rb sv s w st)(n:Nat):Env w0 rb sv s (w.setCell ⟨rb,2,none⟩ (.int .i64 n)) {st with op:=n}:=a.step ((aJ w rb).set (o:=2) (.int .i64 n)) (a.rs.set2 n)
abbrev bg:=@Env.BG
theorem Env.Dc{w0:World}{rb:Nat}{sv:Value}{s:List Int}{w:World}{st:RX.St}(a:Env w0 rb sv s w st)(n:Nat):Env w0 rb sv s (w.setCell ⟨rb,3,none⟩ (.int .i64 n)) {st with aC:=n}:=a.step ((aJ w rb).set (o:=3) (.int .i64 n)) (a.rs.aap n)
abbrev bn:=@Env.Dc
theorem Env.acd{w0:World}{rb:Nat}{sv:Value}{s:List Int}{w:World}{st:RX.St}{x:Int}(a:Env w0 rb sv s w st)(d:x=(st.at_:Int)+1):Env w0 rb sv s (w.setCell ⟨rb,1,none⟩ (.int .i64 x)) (st.bump 1):=d▸a.step ((aJ w rb).set (o:=1) (.int .i64 ((st.at_:Int)+1))) a.rs.bZ
abbrev bu:=@Env.acd
theorem Env.bZ{w0:World}{rb:Nat}{sv:Value}{s:List Int}{w:World}{st:RX.St}(a:Env w0 rb sv s w st):Env w0 rb sv s (w.setCell ⟨rb,1,none⟩ (.int .i64 ((st.at_:Int)+1))) (st.bump 1):=a.step ((aJ w rb).set (o:=1) (.int .i64 ((st.at_:Int)+1))) a.rs.bZ
abbrev aY:=@Env.bZ
section
variable{w0:World}{rb:Nat}{sv:Value}{s:List Int}
theorem K5(c:Int):-1<=RX.digit c/\RX.digit c<=9:=by unfold RX.digit;split<;>omega
theorem qR(w:World)(st:RX.St)(k:Env w0 rb sv s w st)(B:st.at_<=1000):Calls Tryz.prog 169 #[.pointer (some ⟨rb,0,none⟩)] w (zo (.int .i64 (RX.must s st).1) rb sv w (RX.must s st).2 (st.at_+1)):=by
 have m:=jd k;have f:=k.rs;have c1:=f.c1;have f1:=f.fr 1;have t:=jd f;clear k f;obtain⟨d,p⟩:∃d,RX.digit (RX.aR s st 0)=d:=⟨_,rfl⟩;have a:=K5 (RX.aR s st 0);rw[p]at a;obtain⟨u,v⟩:=a;have i:=jd p;clear p;by_cases h:d<0
 .have r:=jd (show RX.must s st=(0,st.fail 5 st.at_)by unfold RX.must;rw[i.o,av h]);go_enter Tryz.func169,Tryz.ntmps169;go_wp2_with fail;refine(iH _ _ m.o (by omega)).mono ?_;rintro e j⟨rfl,n,rfl⟩;go_wp2_with fail;refine(He _ _).mono ?_;rintro e j⟨rfl,n,rfl⟩;rw[i.o];go_wp2_with fail;refine(gW _ st 5 st.at_ (m.o.drewN _)).mono ?_;rintro e j⟨rfl,z,A,C⟩;go_wp2_with fail;go_ret;rw[r.o];exact⟨rfl,z,((aJ w rb).drewN _).trans A,by show(st.fail _ _).at_<=_;omega⟩
 .have r:=jd (show RX.must s st=(d,st.bump 1)by unfold RX.must;rw[i.o,ae h]);go_enter Tryz.func169,Tryz.ntmps169;go_wp2_with fail;refine(iH _ _ m.o (by omega)).mono ?_;rintro e j⟨rfl,n,rfl⟩;go_wp2_with fail;refine(He _ _).mono ?_;rintro e j⟨rfl,n,rfl⟩;rw[i.o];go_wp2_with fail;go_ret;rw[r.o];refine⟨rfl,?_,?_,az _⟩
  .exact RS.bZ (t.o.drewN _)
  .exact((aJ w rb).drewN _).set _
theorem zo.of{v d:Value}{rb hi:Nat}{sv:Value}{w w':World}{st a:RX.St}(f:RS rb sv w' st)(h:Only w w' rb)(i:st.at_<=hi)(j:v=d)(e:st=a):zo d rb sv w a hi (.returned v) w':=⟨by rw[j],e▸f,h,e▸i⟩
theorem mH.of{R:World->Value->Prop}{v:Value}{rb hi:Nat}{sv:Value}{w w':World}{st a:RX.St}(d:RS rb sv w' st)(f:Only w w' rb)(h:st.at_<=hi)(i:R w' v)(e:st=a):mH R rb sv w a hi (.returned v) w':=⟨v,rfl,i,e▸d,f,e▸h⟩
abbrev jo:=@mH.of
theorem Env.jk{w:World}{st:RX.St}(h:Env w0 rb sv s w st):rb<w.heap.size:=ag h.rs
theorem NG(w:World)(st:RX.St)(m:Env w0 rb sv s w st)(B:st.at_<=900):Calls Tryz.prog 163 #[.pointer (some ⟨rb,0,none⟩)] w (zo (.tuple #[.int .i64 (RX.bounds s st).1,.int .i64 (RX.bounds s st).2.1]) rb sv w (RX.bounds s st).2.2 (st.at_+5)):=by
 have f:=jd m;have i:=jd (aJ w rb);have c1:=m.rs.c1;have f1:=m.rs.fr 1;clear m;go_enter Tryz.func163,Tryz.ntmps163;go_wp2_with(first|(go_at_call 122;apply aM;apply fF (w0:=w0) (rb:=rb) (sv:=sv) (s:=s);(focus(repeat(first|exact f.o|apply aY|apply aZ|apply aX|apply bg|apply bn|apply bu|apply Env.aK d|(simp only[RX.St.bump];omega)|omega)));rintro e p⟨rfl,n,rfl⟩)|(go_at_call 139;apply aM;apply iH (w0:=w0) (rb:=rb) (sv:=sv) (s:=s);(focus(repeat(first|exact f.o|apply aY|apply aZ|apply aX|apply bg|apply bn|apply bu|apply Env.aK d|(simp only[RX.St.bump];omega)|omega)));(first|omega|(simp only[RX.St.bump]at*;omega));rintro e p⟨rfl,n,rfl⟩)|(go_at_call 169;apply aM;apply qR (w0:=w0) (rb:=rb) (sv:=sv) (s:=s);(focus(repeat(first|exact f.o|apply aY|apply aZ|apply aX|apply bg|apply bn|apply bu|apply Env.aK d|(simp only[RX.St.bump];omega)|omega)));(first|omega|(simp only[RX.St.bump]at*;omega));rintro e p⟨rfl,a,h,j⟩;generalize t:RX.must s _=u at a j⊢;obtain⟨C,v⟩:=u;simp only at a j⊢;(try simp only[RX.St.bump]at j);have f:=jd (Env.step (by(focus(repeat(first|exact f.o|apply aY|apply aZ|apply aX|apply bg|apply bn|apply bu|apply Env.aK d|(simp only[RX.St.bump];omega)|omega)))) h a);have i:=jd (eO (by(focus(repeat(first|exact i.o|apply fI|apply fT|apply fJ|apply Only.dF k)))) h);have c1:=a.c1;have f1:=a.fr 1;have c2:=a.c2;have z:=a.fr 2;have c3:=a.c3;have A:=a.fr 3;have r:=ag a;clear a h)|(go_at_call 123;apply aM;apply gW (w0:=w0) (rb:=rb) (sv:=sv) (s:=s);(focus(repeat(first|exact f.o|apply aY|apply aZ|apply aX|apply bg|apply bn|apply bu|apply Env.aK d|(simp only[RX.St.bump];omega)|omega)));rintro e p⟨rfl,a,h,j⟩;generalize t:RX.St.fail _ _ _=v at a j;(try simp only[RX.St.bump]at j);have f:=jd (Env.step (by(focus(repeat(first|exact f.o|apply aY|apply aZ|apply aX|apply bg|apply bn|apply bu|apply Env.aK d|(simp only[RX.St.bump];omega)|omega)))) h a);have i:=jd (eO (by(focus(repeat(first|exact i.o|apply fI|apply fT|apply fJ|apply Only.dF k)))) h);have c1:=a.c1;have f1:=a.fr 1;have c2:=a.c2;have z:=a.fr 2;have c3:=a.c3;have A:=a.fr 3;have r:=ag a;clear a h));all_goals go_ret2
 all_goals(apply zo.of;((apply Env.rs (w0:=w0) (s:=s));(focus(repeat(first|exact f.o|apply aY|apply aZ|apply aX|apply bg|apply bn|apply bu|apply Env.aK d|(simp only[RX.St.bump];omega)|omega))));(focus(repeat(first|exact i.o|apply fI|apply fT|apply fJ|apply Only.dF k)));(first|omega|(simp only[RX.St.bump]at*;omega)))
 all_goals(clear f i;(first|(simp_all[RX.bounds,RX.high];done)|(simp_all[RX.bounds,RX.high,RX.St.bump];done)|(simp_all[RX.bounds,RX.high,RX.St.bump];omega)|(simp only[RX.bounds,RX.high,RX.St.bump]at*;omega)|skip))
end
end Go.Proofs.YtcogknbbbjnaiaaGreatDoor
