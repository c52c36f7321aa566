/- For ShowTells: what the texts XGrp of wip/tpl say. -/
import Derived.Test.YtcogknbbbjnaiaaGreatDoorI
import Derived.Deep.CutBlock
set_option maxRecDepth 100000
set_option maxHeartbeats 4000000
namespace Go.Proofs.YtcogknbbbjnaiaaGreatDoor
open Go.RowKit
section
variable{w0:World}{rb:Nat}{sv:Value}{s:List Int}
structure jr(w0:World)(rb:Nat)(sv:Value)(s:List Int)(w:World)(st:RX.St)(v:Value)(l:List RX.aA)(wr:World):Prop where
 env:Env w0 rb sv s wr st
 only:Only w wr rb
 val:dI (rb+1) (rb+1) wr v l
abbrev gF:=@jr.env
variable{w wr w':World}{st st':RX.St}{v v':Value}{l l':List RX.aA}
theorem jr.step(h:jr w0 rb sv s w st v l wr)(d:Env w0 rb sv s w' st')(a:Only wr w' rb):jr w0 rb sv s w st' v l w':=⟨d,h.only.trans a,aT.only h.val (jQ _) a⟩
theorem jr.drewN{n:Nat}(h:jr w0 rb sv s w st v l wr):jr w0 rb sv s w st v l (wr.drewN n):=h.step (h.env.drewN n) ((aJ _ _).drewN n)
abbrev bM:=@jr.drewN
theorem jr.bump(h:jr w0 rb sv s w st v l wr):jr w0 rb sv s w (st.bump 1) v l (wr.setCell ⟨rb,1,none⟩ (.int .i64 ((st.at_:Int)+1))):=h.step h.env.bZ ((aJ _ _).set _)
abbrev bO:=@jr.bump
theorem jr.abH(h:jr w0 rb sv s w st v l wr):jr w0 rb sv s w (st.bump 3) v l (wr.setCell ⟨rb,1,none⟩ (.int .i64 ((st.at_:Int)+3))):=h.step (h.env.bump 3) ((aJ _ _).set _)
abbrev cO:=@jr.abH
theorem jr.alloc{o:Obj}(h:jr w0 rb sv s w st v l wr):jr w0 rb sv s w st v l (wr.alloc o):=h.step (h.env.alloc o) ((aJ _ _).alloc o)
abbrev df:=@jr.alloc
theorem jr.call(h:jr w0 rb sv s w st v l wr)(d:RS rb sv w' st')(a:Only wr w' rb):jr w0 rb sv s w st' v l w':=h.step (h.env.step a d) a
theorem jr.ext(h:jr w0 rb sv s w st v l wr)(a:Ext wr w'):jr w0 rb sv s w st v l w':=h.step (h.env.ext a) (iO a rb)
theorem jr.BG{n:Nat}(h:jr w0 rb sv s w st v l wr):jr w0 rb sv s w {st with op:=n} v l (wr.setCell ⟨rb,2,none⟩ (.int .i64 n)):=h.step (h.env.BG n) ((aJ _ _).set _)
theorem jr.Nh(h:jr w0 rb sv s w st v l wr):jr w0 rb sv s w {st with op:=st.op+1} v l (wr.setCell ⟨rb,2,none⟩ (.int .i64 ((st.op:Int)+1))):=h.BG (n:=st.op+1)
abbrev cZ:=@jr.Nh
theorem jr.Ni(h:jr w0 rb sv s w st v l wr)(a:1<=st.op):jr w0 rb sv s w {st with op:=st.op-1} v l (wr.setCell ⟨rb,2,none⟩ (.int .i64 ((st.op:Int)-1))):=by
 have e:((st.op:Int)-1)=((st.op-1:Nat):Int):=by omega
 rw[e];exact h.BG
theorem jr.Eg(h:jr w0 rb sv s w st v l wr):jr w0 rb sv s w {st with aC:=st.aC+1} v l (wr.setCell ⟨rb,3,none⟩ (.int .i64 ((st.aC:Int)+1))):=h.step (h.env.Dc (st.aC+1)) ((aJ _ _).set _)
abbrev bY:=@jr.Eg
theorem jr.jk(h:jr w0 rb sv s w st v l wr):rb<wr.heap.size:=ag h.env.rs
theorem jr.start(a:Env w0 rb sv s w st):jr w0 rb sv s w st (.slice none 0 0) [] w:=⟨a,aJ w rb,aS⟩
theorem jr.JS(h:jr w0 rb sv s w st v l wr)(a:dI (rb+1) (rb+1) wr v' l'):jr w0 rb sv s w st v' l' wr:=⟨h.env,h.only,a⟩
def Mk(w0:World)(rb:Nat)(sv:Value)(s:List Int)(alt:RX.St->List RX.aA×RX.St)(op:Nat):Prop:=∀(w:World)(st:RX.St),Env w0 rb sv s w st->st.ok=true->st.at_<=s.length->st.aC<=9->st.op=op->
 Calls Tryz.prog 121 #[.pointer (some ⟨rb,0,none⟩)] w (mH (fun w' v=>dI (rb+1) (rb+1) w' v (alt st).1) rb sv w (alt st).2 (s.length+30))
namespace RX
def dH(s:List Int)(st:St):Int×St:=if 12<=st.op then(0,st.fail 6 st.at_)
 else if aR s st 1=63/\aR s st 2=58 then(0,st.bump 3)
 else if aR s st 1=63 then(0,st.fail 5 (st.at_+2))
 else if 9<=st.aC then(0,st.fail 3 st.at_)
 else(st.aC+1,{st.bump 1 with aC:=st.aC+1})
theorem Ky(s:List Int)(alt:St->List aA×St){st:St}(a:st.ok=true):dP s alt st=if(dH s st).2.ok=true then dU s alt (dH s st).1 (dH s st).2 else([],(dH s st).2):=by
 unfold dP dH;by_cases d:12<=st.op
 .simp only[av d];rw[St.aW _ (by decide)];rfl
 simp only[ae d];by_cases e:aR s st 1=63/\aR s st 2=58
 .simp only[av e];rw[show(st.bump 3).ok=true from a];rfl
 simp only[ae e];by_cases f:aR s st 1=63
 .simp only[av f];rw[St.aW _ (by decide)];rfl
 simp only[ae f];by_cases h:9<=st.aC
 .simp only[av h];rw[St.aW _ (by decide)];rfl
 simp only[ae h];rw[show({st.bump 1 with aC:=st.aC+1}:St).ok=true from a];rfl
theorem Kz{s:List Int}{st:St}(j:st.at_<s.length)(m:st.aC<=9):(dH s st).2.at_<=s.length/\((dH s st).2.ok=true->st.op<12/\(dH s st).2.op=st.op/\(dH s st).2.aC<=9):=by
 have a:∀c b,c≠0->(st.fail c b).at_<=s.length/\((st.fail c b).ok=true->st.op<12/\(st.fail c b).op=st.op/\(st.fail c b).aC<=9):=fun c b h=>
  ⟨by rw[St.jK];omega,by rw[St.aW _ h];exact(fun h=>nomatch h)⟩;unfold dH;by_cases d:12<=st.op
 .simp only[av d];exact a _ _ (by decide)
 simp only[ae d];by_cases e:aR s st 1=63/\aR s st 2=58
 .simp only[av e];have:=dN (s:=s) (k:=2) (st:=st) (by omega);exact⟨this,fun _=>⟨by omega,rfl,m⟩⟩
 simp only[ae e];by_cases f:aR s st 1=63
 .simp only[av f];exact a _ _ (by decide)
 simp only[ae f];by_cases i:9<=st.aC
 .simp only[av i];exact a _ _ (by decide)
 simp only[ae i];exact⟨j,fun _=>⟨by omega,rfl,by show st.aC+1<=9;omega⟩⟩
def closed(s:List Int)(st:St):St:=if st.ok=true/\aR s st 0≠41 then st.fail 5 st.at_ else st
theorem Nj(s:List Int)(alt:St->List aA×St)(n:Int)(st:St):dU s alt n st=(under (node 5 n 0 false false []) [(alt {st with op:=st.op+1}).1],(closed s {(alt {st with op:=st.op+1}).2 with op:=(alt {st with op:=st.op+1}).2.op-1}).bump 1):=rfl
theorem Rw(s:List Int)(st:St):(closed s st).at_=st.at_:=by
 unfold closed;split
 .exact St.jK _ _ _
 .rfl
end RX
theorem aah(x:Int):(x !=41)=(true&&decide (x≠41)):=by simp[bne];rfl
theorem JQ{d:Int}{k:Nat}{l:List RX.aA}(h:RX.Tr d k l)(f:d<=1000)(i:k<=90000)(t:RX.aA):Small t [l]:=by
 refine⟨?_,fun l' a x e=>?_⟩
 .rw[RX.dZ];have:=h.1;simp;omega
 .simp at a;subst a;have:=h.2 x e;omega
theorem QL(w:World)(st:RX.St)(alt:RX.St->List RX.aA×RX.St)(E:Env w0 rb sv s w st)(K:st.ok=true)(ha:st.at_<s.length)(h9:st.aC<=9){c:Nat}{d:Int}(hk:RX.dV s c d alt)(hc:c<=20)(hd:d<=100)(S:st.op<12->Mk w0 rb sv s alt (st.op+1)):Calls Tryz.prog 160 #[.pointer (some ⟨rb,0,none⟩)] w (mH (fun w' v=>dI (rb+1) (rb+1) w' v (RX.dP s alt st).1) rb sv w (RX.dP s alt st).2 (s.length+30)):=by
 have f:=jd (jr.start E);have oF:=E.len;have c1:=E.rs.c1;have c2:=E.rs.c2;have c3:=E.rs.c3;have f1:=E.rs.fr 1;have F:=E.rs.fr 3;clear E;go_enter Tryz.func160,Tryz.ntmps160;have R:=jd (RX.Ky s alt K);have HO:=jd K;clear K;have k:rb<w.heap.size:=f.o.jk;go_upto_block 0 with fail;go_cut[3](fun s3 L=>s3=.int .i64 (RX.dH s st).1/\jr w0 rb sv s w (RX.dH s st).2 (.slice none 0 0) [] L);case first=>
  by_cases M:12<=st.op
  .have hd:decide ((12:Int)<=st.op)=true:=by simp;omega
   have G:=jd (show RX.dH s st=(0,st.fail 6 st.at_)by unfold RX.dH;rw[av M]);go_wp2_with(first|(go_at_call 123;apply aM;apply gW (w0:=w0) (rb:=rb) (sv:=sv) (s:=s);(apply gF;(focus(repeat(first|exact f.o|apply bM|apply bO|apply cO|apply cZ|apply bY|apply df))));rintro e w'⟨rfl,t,u,A⟩;have f:=jd (jr.call (by(focus(repeat(first|exact f.o|apply bM|apply bO|apply cO|apply cZ|apply bY|apply df)))) t u);have a:=f.o.env.rs;have c1:=a.c1;have c2:=a.c2;have c3:=a.c3;have f1:=a.fr 1;have I:=a.fr 2;have F:=a.fr 3;have k:=f.o.jk;clear a;clear t u A));go_meet;rw[G.o];exact⟨rfl,by(focus(repeat(first|exact f.o|apply bM|apply bO|apply cO|apply cZ|apply bY|apply df)))⟩
  have hd:decide ((12:Int)<=st.op)=false:=by simp;omega
  rcases h3:(RX.aR s st 1==63)with _|_;focus
   have j:¬RX.aR s st 1=63:=by simpa using h3
   by_cases h4:9<=st.aC;focus
    have T:decide ((9:Int)<=st.aC)=true:=by simp;omega
    have G:=jd (show RX.dH s st=(0,st.fail 3 st.at_)by unfold RX.dH;rw[ae M,ae (fun h=>j h.1),ae j,av h4]);clear j
   rotate_left
   .have T:decide ((9:Int)<=st.aC)=false:=by simp;omega
    have G:=jd (show RX.dH s st=((st.aC:Int)+1,{st.bump 1 with aC:=st.aC+1})by unfold RX.dH;rw[ae M,ae (fun h=>j h.1),ae j,ae h4]);clear j;go_wp2_with(first|(go_at_call 148;apply aM;apply yV (w0:=w0) (rb:=rb) (sv:=sv) (s:=s);(first|exact yX|exact yY|exact sD);(apply gF;(focus(repeat(first|exact f.o|apply bM|apply bO|apply cO|apply cZ|apply bY|apply df))));(first|omega|(simp only[RX.St.bump]at*;omega));rintro e w'⟨rfl,n,rfl⟩)|(go_at_call 123;apply aM;apply gW (w0:=w0) (rb:=rb) (sv:=sv) (s:=s);(apply gF;(focus(repeat(first|exact f.o|apply bM|apply bO|apply cO|apply cZ|apply bY|apply df))));rintro e w'⟨rfl,t,u,A⟩;have f:=jd (jr.call (by(focus(repeat(first|exact f.o|apply bM|apply bO|apply cO|apply cZ|apply bY|apply df)))) t u);have a:=f.o.env.rs;have c1:=a.c1;have c2:=a.c2;have c3:=a.c3;have f1:=a.fr 1;have I:=a.fr 2;have F:=a.fr 3;have k:=f.o.jk;clear a;clear t u A));go_meet;rw[G.o];exact⟨rfl,bO (bY (by(focus(repeat(first|exact f.o|apply bM|apply bO|apply cO|apply cZ|apply bY|apply df)))))⟩
  rotate_left;focus
   have j:RX.aR s st 1=63:=by simpa using h3
   rcases h5:(RX.aR s st 2==58)with _|_;focus
    have C:¬RX.aR s st 2=58:=by simpa using h5
    have G:=jd (show RX.dH s st=(0,st.fail 5 (st.at_+2))by unfold RX.dH;rw[ae M,ae (fun h=>C h.2),av j]);clear j C
   rotate_left;focus
    have C:RX.aR s st 2=58:=by simpa using h5
    have G:=jd (show RX.dH s st=(0,st.bump 3)by unfold RX.dH;rw[ae M,av ⟨j,C⟩]);clear j C
   rotate_left
  rotate_left 2;all_goals
   go_wp2_with(first|(go_at_call 148;apply aM;apply yV (w0:=w0) (rb:=rb) (sv:=sv) (s:=s);(first|exact yX|exact yY|exact sD);(apply gF;(focus(repeat(first|exact f.o|apply bM|apply bO|apply cO|apply cZ|apply bY|apply df))));(first|omega|(simp only[RX.St.bump]at*;omega));rintro e w'⟨rfl,n,rfl⟩)|(go_at_call 123;apply aM;apply gW (w0:=w0) (rb:=rb) (sv:=sv) (s:=s);(apply gF;(focus(repeat(first|exact f.o|apply bM|apply bO|apply cO|apply cZ|apply bY|apply df))));rintro e w'⟨rfl,t,u,A⟩;have f:=jd (jr.call (by(focus(repeat(first|exact f.o|apply bM|apply bO|apply cO|apply cZ|apply bY|apply df)))) t u);have a:=f.o.env.rs;have c1:=a.c1;have c2:=a.c2;have c3:=a.c3;have f1:=a.fr 1;have I:=a.fr 2;have F:=a.fr 3;have k:=f.o.jk;clear a;clear t u A));go_meet;rw[G.o];exact⟨rfl,by(focus(repeat(first|exact f.o|apply bM|apply bO|apply cO|apply cZ|apply bY|apply df)))⟩
 case rest=>
  obtain⟨rfl,D⟩:=hcut;have f:=jd D;clear D c1 c2 c3 f1 F k;have m:=RX.Kz (s:=s) ha h9;generalize RX.dH s st=g at R f m⊢;obtain⟨n2,i⟩:=g;dsimp only at R f m⊢;obtain⟨Xg,m⟩:=m;rcases p:i.ok with _|_
  .go_wp2_with(first|(go_at_call 122;apply aM;apply fF (w0:=w0) (rb:=rb) (sv:=sv) (s:=s);(apply gF;(focus(repeat(first|exact f.o|apply bM|apply bO|apply cO|apply cZ|apply bY|apply df))));rintro e w'⟨rfl,n,rfl⟩));go_ret;have H:=R.o;rw[p,ae (by decide)]at H;rw[H];have HD:=f.o.drewN (n:=n);exact jo HD.env.rs HD.only (by omega) aS rfl
  .obtain⟨U,V,gu⟩:=m p;have H:=R.o;rw[p,av rfl,RX.Nj]at H;have HQ:=S U;have N:=hk {i with op:=i.op+1} p Xg gu;have X:∀w,Env w0 rb sv s w {i with op:=i.op+1}->Calls Tryz.prog 121 #[.pointer (some ⟨rb,0,none⟩)] w (mH (fun w' v=>dI (rb+1) (rb+1) w' v (alt {i with op:=i.op+1}).1) rb sv w (alt {i with op:=i.op+1}).2 (s.length+30)):=
    fun w E=>HQ w _ E p Xg gu (by show i.op+1=_;omega);generalize alt {i with op:=i.op+1}=r at H N X;have O:r.2.op=i.op+1:=N.1.op;have Y:r.2.at_<=s.length+c:=N.1.hi;have P:=JQ N.2 (by omega) (by omega);have Z:=jd H;have S:=jd X;have HS:=jd P;have HP:=jd O;have hp1:1<=r.2.op:=by omega
   have hp2:r.2.op<=12:=by omega
   have hp0:i.op<=12:=by omega
   clear H X N P m HQ O V;have a:=f.o.env.rs;have c1:=a.c1;have c2:=a.c2;have c3:=a.c3;have f1:=a.fr 1;have I:=a.fr 2;have F:=a.fr 3;have k:=f.o.jk;clear a;go_upto_region 17 with(first|(go_at_call 122;apply aM;apply fF (w0:=w0) (rb:=rb) (sv:=sv) (s:=s);(apply gF;(focus(repeat(first|exact f.o|apply bM|apply bO|apply cO|apply cZ|apply bY|apply df))));rintro e w'⟨rfl,n,rfl⟩)|(go_at_call 121;refine(S.o _ ?hen).mono ?_;(case hen=>(apply gF;(focus(repeat(first|exact f.o|apply bM|apply bO|apply cO|apply cZ|apply bY|apply df)))));rintro e w'⟨v,rfl,hv,t,u,A⟩;have f:=jd (jr.call (by(focus(repeat(first|exact f.o|apply bM|apply bO|apply cO|apply cZ|apply bY|apply df)))) t u);have a:=f.o.env.rs;have c1:=a.c1;have c2:=a.c2;have c3:=a.c3;have f1:=a.fr 1;have I:=a.fr 2;have F:=a.fr 3;have k:=f.o.jk;clear a;clear t u A;obtain⟨Aa,ca,rfl,_⟩:=hv.form;have HV:=jd hv;clear hv));go_upto_region 18 with fail;have f:=jd (jr.Ni (jr.JS f.o HV.o) hp1);generalize Q:({r.2 with op:=r.2.op-1}:RX.St)=z at f Z;have ae6:z.at_<=s.length+c:=by rw[<-Q];exact Y
   clear Q;go_cut[99](fun s99 L=>∃b,s99=.bool b/\b=(z.ok&&decide (RX.aR s z 0≠41))/\jr w0 rb sv s w z (.slice Aa r.1.length ca) r.1 L);case first=>
    rcases IL:z.ok with _|_
    .go_wp2_with(first|(go_at_call 122;apply aM;apply fF (w0:=w0) (rb:=rb) (sv:=sv) (s:=s);(apply gF;(focus(repeat(first|exact f.o|apply bM|apply bO|apply cO|apply cZ|apply bY|apply df))));rintro e w'⟨rfl,n,rfl⟩));go_meet;exact⟨_,rfl,by rw[IL];rfl,by(focus(repeat(first|exact f.o|apply bM|apply bO|apply cO|apply cZ|apply bY|apply df)))⟩
    .go_wp2_with(first|(go_at_call 122;apply aM;apply fF (w0:=w0) (rb:=rb) (sv:=sv) (s:=s);(apply gF;(focus(repeat(first|exact f.o|apply bM|apply bO|apply cO|apply cZ|apply bY|apply df))));rintro e w'⟨rfl,n,rfl⟩)|(go_at_call 139;apply aM;apply iH (w0:=w0) (rb:=rb) (sv:=sv) (s:=s);(apply gF;(focus(repeat(first|exact f.o|apply bM|apply bO|apply cO|apply cZ|apply bY|apply df))));(first|omega|(simp only[RX.St.bump]at*;omega));rintro e w'⟨rfl,n,rfl⟩));go_meet;exact⟨_,rfl,by rw[IL];exact aah _,by(focus(repeat(first|exact f.o|apply bM|apply bO|apply cO|apply cZ|apply bY|apply df)))⟩
   case rest=>
    obtain⟨b,rfl,A,D⟩:=hcut;have f:=jd D;have HB:=jd A;clear D A;have a:=f.o.env.rs;have c1:=a.c1;have c2:=a.c2;have c3:=a.c3;have f1:=a.fr 1;have I:=a.fr 2;have F:=a.fr 3;have k:=f.o.jk;clear a;go_upto_if 99 with fail;go_cut[](fun L=>jr w0 rb sv s w (RX.closed s z) (.slice Aa r.1.length ca) r.1 L);case first=>
     rcases b with _|_;focus
      have G:=jd (show RX.closed s z=z by unfold RX.closed;rw[ae];have:=HB.o;intro h;rw[h.1,bJ h.2]at this;cases this);go_wp2_with fail
     rotate_left;focus
      have G:=jd (show RX.closed s z=z.fail 5 z.at_ by unfold RX.closed;rw[av];have:=HB.o.symm;simp only[jR,jf]at this;exact this);go_wp2_with(first|(go_at_call 123;apply aM;apply gW (w0:=w0) (rb:=rb) (sv:=sv) (s:=s);(apply gF;(focus(repeat(first|exact f.o|apply bM|apply bO|apply cO|apply cZ|apply bY|apply df))));rintro e w'⟨rfl,t,u,A⟩;have f:=jd (jr.call (by(focus(repeat(first|exact f.o|apply bM|apply bO|apply cO|apply cZ|apply bY|apply df)))) t u);have a:=f.o.env.rs;have c1:=a.c1;have c2:=a.c2;have c3:=a.c3;have f1:=a.fr 1;have I:=a.fr 2;have F:=a.fr 3;have k:=f.o.jk;clear a;clear t u A))
     rotate_left;all_goals
      go_meet;rw[G.o];(focus(repeat(first|exact f.o|apply bM|apply bO|apply cO|apply cZ|apply bY|apply df)))
    case rest=>
     have adB:=RX.Rw s z;have adC:(RX.closed s z).at_<=s.length+c:=by omega
     clear adB;generalize RX.closed s z=Gb at Z hcut adC;have f:=jd hcut;clear hcut;have a:=f.o.env.rs;have c1:=a.c1;have c2:=a.c2;have c3:=a.c3;have f1:=a.fr 1;have I:=a.fr 2;have F:=a.fr 3;have k:=f.o.jk;clear a;go_wp2_with(first|(go_at_call 140;apply aM;apply vC (B:=rb+1) (parts:=[_]);apply CR.FW;(apply YY;(focus(first|rfl|(simp;done)|(simp;omega)));(focus(first|omega|(simp;omega)));(apply jr.val;(focus(repeat(first|exact f.o|apply bM|apply bO|apply cO|apply cZ|apply bY|apply df)))));exact HS.o _;rintro e w'⟨vr,rfl,J,hx⟩;have HR:=jd (jq (base':=rb+1) J.sl (by(focus(first|omega|(simp;omega)))));have f:=jd (jr.ext (by(focus(repeat(first|exact f.o|apply bM|apply bO|apply cO|apply cZ|apply bY|apply df)))) hx);have a:=f.o.env.rs;have c1:=a.c1;have c2:=a.c2;have c3:=a.c3;have f1:=a.fr 1;have I:=a.fr 2;have F:=a.fr 3;have k:=f.o.jk;clear a;clear hx J));go_ret;have H:=Z.o;rw[H];exact jo f.o.env.rs f.o.only (by show Gb.at_+1<=_;omega) HR.o rfl
end
end Go.Proofs.YtcogknbbbjnaiaaGreatDoor
