/- For ShowTells: what the texts XRfD XRfE XRfF XRfG XRfH XRfI of wip/tpl say. -/
import Derived.Test.YtcogknbbbjnaiaaGreatDoorR
import Derived.Deep.RegionHeld3
set_option maxRecDepth 100000
set_option maxHeartbeats 3000000
namespace Go.Proofs.YtcogknbbbjnaiaaGreatDoor
open Go.RowKit
namespace RX
theorem Oe{c:Int}{l:List Int}(h:dA (lower c)=some l):eF c=none:=by
 have d:c=100\/c=119\/c=115\/c=68\/c=87\/c=83:=by
  by_cases a:c=100\/c=119\/c=115\/c=68\/c=87\/c=83
  .exact a
  .simp only[not_or]at a;rw[EX (AY ⟨a.1,a.2.1,a.2.2.1,a.2.2.2.1,a.2.2.2.2.1,a.2.2.2.2.2⟩)]at h;cases h
 rcases d with rfl|rfl|rfl|rfl|rfl|rfl<;>decide
theorem yc{c:Int}{l:List Int}(h:dA c=some l):(c=100/\l=[48,57])\/(c=119/\l=[97,122,65,90,48,57,95,95])\/(c=115/\l=[32,32,9,9,10,10]):=by
 unfold dA at h;split at h
 .rename_i a;injection h with h;exact .inl ⟨a,h.symm⟩
 split at h
 .rename_i a;injection h with h;exact .inr (.inl ⟨a,h.symm⟩)
 split at h
 .rename_i a;injection h with h;exact .inr (.inr ⟨a,h.symm⟩)
 .cases h
theorem E5{c:Int}(a:dA c=none)(d:eF c=none):(eQ c).2=true:=by
 unfold eQ;rw[a];simp only;rcases e:dA (lower c)with _|l
 .simp only[d]
 .rfl
theorem BS{c x:Int}(d:dA c=none)(a:eF c=some x):eQ c=([x,x],false):=by
 unfold eQ;rw[d];simp only;rcases e:dA (lower c)with _|l
 .simp only[a]
 .rw[Oe e]at a;cases a
theorem BU{c:Int}{l:List Int}(a:dA c=some l):eQ c=(l,false):=by unfold eQ;rw[a]
def jc(m:Int×Option (List Int)×St):List Int:=match m.2.1 with
|some l=>l
|none=>[m.1,m.1]
def fE(s:List Int)(k:Nat):Bool:=match s[k]? with
|none=>false
|some c=>decide (c≠93)&&(decide (c≠92)||(eF ((s[k+1]?).getD (-1))).isSome)
end RX
structure VB(st stf st2:RX.St)(n:Nat):Prop where
 code:st2.code=stf.code
 gL:st2.gL=stf.gL
 hi:st2.at_<=n
 op:st2.op=st.op
theorem VB.ok{st a d:RX.St}{n:Nat}(h:VB st a d n):d.ok=a.ok:=by unfold RX.St.ok;rw[h.code]
def MeP(s:List Int)(st:RX.St)(rb:Nat)(sv:Value)(w:World)(e:Ending)(w':World):Prop:=Only w w' rb/\(((RX.member s st).2.2.ok=true/\∃v,e=.returned (.tuple #[v,.bool (RX.member s st).2.1.isNone])/\aT 21 1 Cc w.heap.size w' v (RX.jc (RX.member s st))/\QS rb sv w' (RX.member s st).2.2)\/((RX.member s st).2.2.ok=false/\e=.returned (.tuple #[.slice none 0 0,.bool false])/\∃st2,QS rb sv w' st2/\VB st (RX.member s st).2.2 st2 (st.at_+2)))
theorem Ym{s:List Int}(a:∀x∈s,0<=x)(st:RX.St)(k:Nat):RX.aR s st k=-1\/0<=RX.aR s st k:=by
 unfold RX.aR;rcases d:s[st.at_+k]? with _|x
 .exact .inl rfl
 .exact .inr (a x (tJ d))
theorem AZ{B:Nat}{w:World}{A:Option Addr}{n c:Nat}{a b:Int}(h:aT 21 1 Cc B w (.slice A n c) [a,b]):∃g o,A=some ⟨g,o,none⟩/\w.cell? ⟨g,o,none⟩=some (.int .i32 a)/\w.cell? ⟨g,o+1,none⟩=some (.int .i32 b):=by obtain⟨g,o,e,f⟩:=ib.at_ (aT.mV h) (k:=0) (by simp);obtain⟨p,r,d,i⟩:=ib.at_ (aT.mV h) (k:=1) (by simp);rw[e]at d;injection d with d;injection d with j m _;subst j m;exact⟨g,o,e,f,i⟩
section
variable{w0:World}{rb:Nat}{sv:Value}{s:List Int}
theorem BV(J:World)(st:RX.St)(O:Qn w0 rb sv s J st)(K:st.ok=true)(V:st.at_<=1000):Calls Tryz.prog 156 #[.pointer (some ⟨rb,0,none⟩)] J (MeP s st rb sv J):=by
 have EZ:=jd O;have Cy:=jd (aJ J rb);have X:=jd K;obtain⟨c,P⟩:∃c,RX.aR s st 0=c:=⟨_,rfl⟩;have HN:=jd P;have B:=Ym O.pos st 0;rw[P]at B;have c1:=O.blk.c1;obtain⟨m,Q⟩:∃m,RX.member s st=m:=⟨_,rfl⟩;have HM:=jd Q;unfold MeP;rw[Q];have f:m=if c=-1\/c=93 then(0,none,st.fail 5 st.at_)
  else if c=92 then(if RX.dA (RX.aR s (st.bump 1) 0)=none/\RX.eF (RX.aR s (st.bump 1) 0)=none then(0,none,(st.bump 1).fail 5 (st.bump 1).at_)else((RX.eF (RX.aR s (st.bump 1) 0)).getD 0,RX.dA (RX.aR s (st.bump 1) 0),(st.bump 1).bump 1))
  else(c,none,st.bump 1):=by rw[<-Q,<-P];rfl
 clear O P K Q;go_enter Tryz.func156,Tryz.ntmps156;go_wp2_with fail;go_region_held3(fun w'=>w'.cell? ⟨rb,1,none⟩=some (.int .i64 (st.at_:Int)))(first|go_keep|assumption)
  (first|(go_at_call 106;(refine(dz _ st (Qn.ex EZ.o (by first|exact aa _|exact(aa _).drewN _|exact(aa _).drew))).mono ?_);rw[HN.o];rintro e w2⟨rfl,hx⟩;have F:=jv (show Ext J _ from(by first|exact aa _|exact(aa _).drewN _|exact(aa _).drew)) hx;have p:=jd (Qn.ex EZ.o F);have u:=jd (eO Cy.o (iO F rb));have c1:=p.o.blk.c1;clear hx F));clear c1;by_cases L:c=92
 .subst L;obtain⟨d,Y⟩:∃d,RX.aR s (st.bump 1) 0=d:=⟨_,rfl⟩;rw[ae (by omega),av rfl,Y]at f;have HD:=jd Y;clear Y B;have I:=jd (fun w h=>uP (w0:=w0) (rb:=rb) (sv:=sv) (s:=s) w st h V);rw[HD.o]at I;have aeX:(st.bump 1).at_=st.at_+1:=rfl;by_cases a:RX.dA d=none/\RX.eF d=none
  .have M:=RX.E5 a.1 a.2;rw[av a]at f;have Z:=jd M;have C:=jd f;clear M f a;go_wp2_with(first|(go_at_call 152;refine(I.o _ p.o).mono ?_;rintro e D⟨v,rfl,j,k,i⟩;rw[Z.o];have r:=jd (Qn.step p.o i k);have t:=jd (eO u.o i);obtain⟨R,S,rfl,-⟩:=j.form;clear j k i)|(go_at_call 91;refine(iK _ _ 5 ((st.at_:Int)+1) r.o).mono ?_;rintro e w4⟨rfl,k,i⟩;have Yl:=jd (Qn.step r.o i k);have pG:=jd (eO t.o i);have HP4:=jd i;clear k i));go_ret2;have G:=Yl.o.blk;refine⟨pG.o,.inr ⟨by rw[C.o];exact RX.St.aW _ (by decide),rfl,_,G,?_⟩⟩;rw[C.o];have h0:st.code=0:=by have:=X.o;unfold RX.St.ok at this;exact nM.1 this
   exact⟨by simp[RX.St.fail,RX.St.bump,h0],by simp[RX.St.fail,RX.St.bump,h0],by rw[RX.St.jK];exact az _,by rw[RX.St.Jb];rfl⟩
  .rw[ae a]at f;have z:m.2.2.ok=true:=by rw[f];exact X.o
   have Og:=jd z;have H:m.2.2=st.bump 2:=by rw[f];rfl
   have HST:=jd H;rcases E:RX.dA d with _|l;focus
    rcases T:RX.eF d with _|x
    .exact absurd ⟨E,T⟩ a
    have A:=RX.BS E T;have HR:=jd (show m.2.1=none/\RX.jc m=[x,x]by rw[f];unfold RX.jc;rw[E,T];exact⟨rfl,rfl⟩);have N:=jd A;clear f a z H E T A;go_wp2_with(go_at_call 152;refine(I.o _ p.o).mono ?_;rintro e D⟨v,rfl,j,k,i⟩;rw[N.o]at j⊢;have r:=jd (Qn.step p.o i k);have t:=jd (eO u.o i);have U:=jd (jq j u.o.size);obtain⟨R,S,rfl,-⟩:=j.form;obtain⟨g,og,rfl,q0,q1⟩:=AZ j;clear j k i)
   rotate_left;focus
    have A:=RX.BU E;have HR:=jd (show m.2.1.isNone=false/\RX.jc m=l by rw[f];unfold RX.jc;rw[E];exact⟨rfl,rfl⟩);have h3:=RX.yc E;have N:=jd A;clear f a z H E A;rcases h3 with⟨-,rfl⟩|⟨-,rfl⟩|⟨-,rfl⟩;focus
     go_wp2_with(go_at_call 152;refine(I.o _ p.o).mono ?_;rintro e D⟨v,rfl,j,k,i⟩;rw[N.o]at j⊢;have r:=jd (Qn.step p.o i k);have t:=jd (eO u.o i);have U:=jd (jq j u.o.size);obtain⟨R,S,rfl,-⟩:=j.form;obtain⟨g,og,rfl,q0,q1⟩:=AZ j;clear j k i)
    rotate_left;focus
     go_wp2_with(go_at_call 152;refine(I.o _ p.o).mono ?_;rintro e D⟨v,rfl,j,k,i⟩;rw[N.o]at j⊢;have r:=jd (Qn.step p.o i k);have t:=jd (eO u.o i);have U:=jd (jq j u.o.size);obtain⟨R,S,rfl,-⟩:=j.form;clear j k i)
    rotate_left;focus
     go_wp2_with(go_at_call 152;refine(I.o _ p.o).mono ?_;rintro e D⟨v,rfl,j,k,i⟩;rw[N.o]at j⊢;have r:=jd (Qn.step p.o i k);have t:=jd (eO u.o i);have U:=jd (jq j u.o.size);obtain⟨R,S,rfl,-⟩:=j.form;clear j k i)
    rotate_left
   rotate_left 3;all_goals
    go_quiet(fail);go_wp2_with fail;go_ret2;refine⟨t.o.trans (iO (by first|exact(aa _).drewN _|exact aa _) rb),.inl ⟨Og.o,_,by rw[HR.o.1];rfl,by rw[HR.o.2];exact U.o.keep (dQ []) (au (by first|exact(aa _).drewN _|exact aa _)) (au (by first|exact(aa _).drewN _|exact aa _)),by rw[HST.o];exact r.o.blk⟩⟩
 .have WV:(c==92)=false:=by simpa using L
  by_cases a:c=-1\/c=93
  .rw[av a]at f;have C:=jd f;clear f L;rcases a with rfl|rfl;all_goals
    clear B;go_wp2_with(go_at_call 91;refine(iK _ _ 5 (st.at_:Int) p.o).mono ?_;rintro e D⟨rfl,k,i⟩;have r:=jd (Qn.step p.o i k);have t:=jd (eO u.o i);have HP3:=jd i;clear k i);go_ret2;have G:=r.o.blk;refine⟨t.o,.inr ⟨by rw[C.o];exact RX.St.aW _ (by decide),rfl,_,G,?_⟩⟩;rw[C.o];exact⟨rfl,rfl,by rw[RX.St.jK];omega,RX.St.Jb _ _ _⟩
  .rw[ae a,ae L]at f;have BZ:(c==93)=false:=by simp;omega
   have hneg:decide (c<0)=false:=bR (by omega);have C:=jd f;have Og:=jd (show m.2.2.ok=true by rw[f];exact X.o);clear f L a B;have c1:=p.o.blk.c1;have f1:=p.o.blk.fr 1;go_upto_region 12 with fail;have r:=jd (Qn.bZ p.o);have t:=jd (eO u.o ((aJ w2 rb).set (o:=1) (.int .i64 ((st.at_:Int)+1))));generalize w2.setCell _ _=D at r t⊢;clear c1 f1;go_wp2_with fail;go_ret2;refine⟨t.o.alloc _,.inl ⟨Og.o,_,by rw[C.o];rfl,?_,?_⟩⟩
   .rw[C.o];exact BD D [c,c] _ _ rfl rfl t.o.size (by simp)
   .rw[C.o];exact((aa D).alloc _).heap r.o.blk
theorem Lr(t:World)(st:RX.St)(i:Qn w0 rb sv s t st)(k:Nat)(Y:k<=1000):Calls Tryz.prog 157 #[.pointer (some ⟨rb,0,none⟩),.int .i64 (k:Int)] t (Vx (.bool (RX.fE s k)) t):=by
 have EZ:=jd i;have c0:=i.blk.c0;have Z:=jd (i.sl.ext i.ext);have oF:=i.len;obtain⟨A,O,rfl,hlx,hcx,_⟩:=i.sl;by_cases H:k<s.length;rotate_left;focus
  have u:=jd (show RX.fE s k=false by unfold RX.fE;rw[gD (by omega)]);have hd:decide ((s.length:Int)<=(k:Int))=true:=bJ (by omega);clear i
 rotate_left;focus
  have hd:decide ((s.length:Int)<=(k:Int))=false:=bR (by omega);have hki:(k:Int)<(s.length:Int):=by omega
  obtain⟨b,P,rfl,hc⟩:=Z.o.at_ (k:=k) H;have f:RX.fE s k=(decide (s[k]≠93)&&(decide (s[k]≠92)||(RX.eF ((s[k+1]?).getD (-1))).isSome)):=by unfold RX.fE;rw[aU H]
  generalize s[k]=x at hc f;by_cases I:x=93;focus
   subst I;have u:=jd (show RX.fE s k=false by rw[f];rfl);clear i f
  rotate_left;focus
   have b93:(x==93)=false:=by simpa using I
   by_cases Q:x=92;rotate_left;focus
    have u:=jd (show RX.fE s k=true by rw[f];simp[I,Q]);have WV:(x !=92)=true:=by simpa using Q
    clear i f Q I
   rotate_left;focus
    subst Q;obtain⟨d,B⟩:∃d,(s[k+1]?).getD (-1)=d:=⟨_,rfl⟩;rw[B]at f;have J:RX.aR s (RX.St.bump ⟨k,0,0,0,0⟩ 1) 0=d:=by rw[<-B];rfl
    have C:=(aa t).alloc (.cells #[.slice (some ⟨b,P,none⟩) s.length O,.int .i64 (k:Int),.int .i64 0,.int .i64 0,.int .i64 0,.int .i64 0] 122);have K:=jd (show Qn w0 t.heap.size (.slice (some ⟨b,P,none⟩) s.length O) s (t.alloc (.cells #[.slice (some ⟨b,P,none⟩) s.length O,.int .i64 (k:Int),.int .i64 0,.int .i64 0,.int .i64 0,.int .i64 0] 122)) ⟨k,0,0,0,0⟩from⟨i.sl,i.ext.size,i.len,i.pos,i.ext.trans C,aB t _⟩);have L:=jd C;have F:=jd (fun w h=>uP (w0:=w0) (rb:=t.heap.size) (sv:=.slice (some ⟨b,P,none⟩) s.length O) (s:=s) w ⟨k,0,0,0,0⟩ h Y);rw[J]at F;have U:=jd f;clear i f I J B C;have M:RX.fE s k=(RX.eF d).isSome:=by rw[U.o];rfl
    have D:=jd M;clear M;rcases E:RX.dA d with _|l;focus
     rcases p:RX.eF d with _|y;focus
      have z:=RX.E5 E p;have rJ:=jd z;have u:=jd (show RX.fE s k=false by rw[D.o,p];rfl);clear E p z;go_enter Tryz.func157,Tryz.ntmps157;go_wp2_with(go_at_call 152;refine(F.o _ K.o).mono ?_;rintro e R⟨v,rfl,a,r,j⟩;rw[rJ.o];have G:=jd (Ext.only L.o j (az _));obtain⟨S,T,rfl,-⟩:=a.form;clear a r j)
     rotate_left
     .have m:=RX.BS E p;have N:=jd m;have u:=jd (show RX.fE s k=true by rw[D.o,p];rfl);clear E p m;go_enter Tryz.func157,Tryz.ntmps157;go_wp2_with(go_at_call 152;refine(F.o _ K.o).mono ?_;rintro e R⟨v,rfl,a,r,j⟩;rw[N.o]at a⊢;have G:=jd (Ext.only L.o j (az _));obtain⟨S,T,rfl,-⟩:=a.form;obtain⟨g,V,rfl,q0,q1⟩:=AZ a;clear a r j);go_quiet(fail);go_wp2_with fail;go_ret;exact⟨aH (by rw[u.o];simp),G.o.trans (by first|exact(aa _).drewN _|exact aa _)⟩
    rotate_left;focus
     have m:=RX.BU E;have X:=RX.yc E;have N:=jd m;have p:RX.eF d=none:=by rcases X with⟨rfl,-⟩|⟨rfl,-⟩|⟨rfl,-⟩<;>decide
     have u:=jd (show RX.fE s k=false by rw[D.o,p];rfl);clear E m p;rcases X with⟨-,rfl⟩|⟨-,rfl⟩|⟨-,rfl⟩;focus
      go_enter Tryz.func157,Tryz.ntmps157;go_wp2_with(go_at_call 152;refine(F.o _ K.o).mono ?_;rintro e R⟨v,rfl,a,r,j⟩;rw[N.o]at a⊢;have G:=jd (Ext.only L.o j (az _));obtain⟨S,T,rfl,-⟩:=a.form;obtain⟨g,V,rfl,q0,q1⟩:=AZ a;clear a r j)
     rotate_left;focus
      go_enter Tryz.func157,Tryz.ntmps157;go_wp2_with(go_at_call 152;refine(F.o _ K.o).mono ?_;rintro e R⟨v,rfl,a,r,j⟩;rw[N.o]at a⊢;have G:=jd (Ext.only L.o j (az _));obtain⟨S,T,rfl,-⟩:=a.form;clear a r j)
     rotate_left;focus
      go_enter Tryz.func157,Tryz.ntmps157;go_wp2_with(go_at_call 152;refine(F.o _ K.o).mono ?_;rintro e R⟨v,rfl,a,r,j⟩;rw[N.o]at a⊢;have G:=jd (Ext.only L.o j (az _));obtain⟨S,T,rfl,-⟩:=a.form;clear a r j)
     rotate_left
    rotate_left 3;all_goals
     go_quiet(fail);go_wp2_with fail;go_ret;exact⟨aH (by rw[u.o];rfl),G.o.trans (by first|exact(aa _).drewN _|exact aa _)⟩
 all_goals
  go_enter Tryz.func157,Tryz.ntmps157;go_wp2_with fail;go_ret;exact⟨aH (by rw[u.o];rfl),aa _⟩
end
namespace RX
inductive Hr(s:List Int)(R:List Int×St):St->List Int->Bool->Prop
|sync(k:Nat)(st:St)(set:List Int):st.ok=true->dw s k st set=R->s.length+1<=k+st.at_->st.at_<=s.length->st.aC<=9->Hr s R st set set.isEmpty
|fail(st:St)(set:List Int)(b:Bool):st.ok=false->st.code=R.2.code->st.gL=R.2.gL->Hr s R st set b
|E8(st:St)(set:List Int):st.ok=true->s[st.at_]?=some 45->s[st.at_+1]?=some 92->dA ((s[st.at_+2]?).getD (-1))=none->eF ((s[st.at_+2]?).getD (-1))=none->R.2.code=5->R.2.gL=(st.at_+2:Nat)->st.aC<=9->Hr s R st set false
|E9(st:St)(set:List Int):st.ok=true->s[st.at_]?=some 92->dA ((s[st.at_+1]?).getD (-1))=none->eF ((s[st.at_+1]?).getD (-1))=none->R.2.code=5->R.2.gL=(st.at_+1:Nat)->st.aC<=9->Hr s R st set false
section
variable{s:List Int}{R:List Int×St}{st:St}{set:List Int}{b:Bool}
theorem yf{x:Int}{k:Nat}(h:s[st.at_+k]?=some x):aR s st k=x:=by unfold aR;rw[h];rfl
theorem VC{x:Int}{k:Nat}(h:aR s st k=x)(d:x≠-1):s[st.at_+k]?=some x:=by
 unfold aR at h;rcases a:s[st.at_+k]? with _|y
 .rw[a]at h;exact absurd h.symm d
 .rw[a]at h;exact congrArg some h
theorem uy{h:(member s st).2.2.ok=false}(a:st.ok=true):(member s st).2.1=none:=by
 unfold member at h⊢;simp only at h⊢;split
 .rfl
 .rename_i d;rw[ae d]at h;split
  .rename_i e;rw[av e]at h;split
   .rfl
   .rename_i f;rw[ae f]at h;have h:st.ok=false:=h;rw[a]at h;cases h
  .rfl
theorem Hr.hi(h:Hr s R st set b)(e:st.ok=true):st.at_<=s.length/\st.aC<=9:=by
 cases h with
 |sync k _ _ a d j f i=>exact⟨f,i⟩
 |fail _ _ _ a=>rw[e]at a;cases a
 |E8 _ _ a d j f i p m r=>exact⟨Nat.le_of_lt (dh.1 d).1,r⟩
 |E9 _ _ a d j f i p m=>exact⟨Nat.le_of_lt (dh.1 d).1,m⟩
theorem Hr.exit(h:Hr s R st set false)(f:st.ok=true)(a:aR s st 0=93):R=(set,st):=by
 generalize i:false=b at h;cases h with
 |sync k _ _ d e j m p=>rw[<-e];exact dR (by rw[<-i,a];simp)
 |fail _ _ _ d=>rw[f]at d;cases d
 |E8 _ _ d e=>rw[yf (k:=0) e]at a;cases a
 |E9 _ _ d e=>rw[yf (k:=0) e]at a;cases a
theorem vV(h:s[st.at_]?=some 92)(a:dA ((s[st.at_+1]?).getD (-1))=none)(d:eF ((s[st.at_+1]?).getD (-1))=none):member s st=(0,none,(st.bump 1).fail 5 (st.at_+1:Nat)):=by have e:aR s st 0=92:=yf (k:=0) h;have f:aR s (st.bump 1) 0=(s[st.at_+1]?).getD (-1):=rfl;unfold member;simp only;rw[e,ae (by decide),av rfl,f,av ⟨a,d⟩];rfl
theorem Ba(h:s[st.at_]?=some 45):member s st=(45,none,st.bump 1):=by have a:aR s st 0=45:=yf (k:=0) h;unfold member;simp only;rw[a,ae (by decide),ae (by decide)]
theorem Hr.bad(h:Hr s R st set b)(a:st.ok=true)(e:b=true\/aR s st 0≠93)(d:(member s st).2.2.ok=false):R.2.ok=false/\R.2.code=(member s st).2.2.code/\R.2.gL=(member s st).2.2.gL:=by
 cases h with
 |sync k _ _ m f t u p=>
  obtain⟨k,rfl⟩:∃j,k=j+1:=⟨k-1,by omega⟩;rw[gY (by rw[a];rcases e with e|e<;>simp[e])]at f;have i:=uy (h:=d) a;have r:aO s st=((member s st).1,(member s st).2.2):=by unfold aO;rw[d];rfl
  rw[eD i,r]at f;simp only[d,Bool.false_eq_true,false_and,if_false]at f;rw[dR (by rw[d];rfl)]at f;rw[<-f];exact⟨d,rfl,rfl⟩
 |fail _ _ _ m=>rw[a]at m;cases m
 |E8 _ _ m f=>rw[Ba f]at d;have d:st.ok=false:=d;rw[a]at d;cases d
 |E9 _ _ m f t u p w=>
  have v:st.code=0:=by unfold St.ok at a;exact nM.1 a
  rw[vV f t u];refine⟨by unfold St.ok;rw[p];rfl,?_,?_⟩
  .rw[p];simp[St.fail,St.bump,v]
  .rw[w];simp[St.fail,St.bump,v]
theorem uQ{k:Nat}(h:fE s k=true):∃c,s[k]?=some c/\c≠93/\(c=92->(eF ((s[k+1]?).getD (-1))).isSome=true):=by
 unfold fE at h;split at h
 .cases h
 .rename_i c a;simp only[jR,Bool.or_eq_true,jf]at h;exact⟨c,a,h.1,fun d=>h.2.resolve_left (fun e=>e d)⟩
theorem Ht{c x:Int}(h:eF c=some x):dA c=none:=by
 rcases a:dA c with _|l
 .rfl
 .rcases yc a with⟨rfl,-⟩|⟨rfl,-⟩|⟨rfl,-⟩<;>(exfalso;revert h;decide+revert)
theorem xD(a:st.ok=true)(i:∀x∈s,0<=x)(h:fE s st.at_=true):(member s st).2.2.ok=true/\(member s st).2.1=none:=by
 obtain⟨c,e,t,j⟩:=uQ h;have m:aR s st 0=c:=yf (k:=0) e;have p:=i c (tJ e);unfold member;simp only;rw[m,ae (by omega)];by_cases d:c=92
 .have r:aR s (st.bump 1) 0=(s[st.at_+1]?).getD (-1):=rfl;obtain⟨x,f⟩:=Option.isSome_iff_exists.1 (j d);rw[av d,r,ae (by rw[f];simp)];exact⟨a,Ht f⟩
 .rw[ae d];exact⟨a,rfl⟩
theorem Gj(j:∀x∈s,0<=x)(h:fE s (st.at_+1)=true)(d:aR s st 0=45):ranged s st=true:=by
 obtain⟨c,e,f,m⟩:=uQ h;have p:aR s st 1=c:=yf (k:=1) e;have r:=j c (tJ e);unfold ranged;rw[av d];simp only;rw[p];have a:c≠-1:=by omega
 by_cases i:c=92
 .obtain⟨x,t⟩:=Option.isSome_iff_exists.1 (m i);have u:aR s st 2=(s[st.at_+1+1]?).getD (-1):=rfl;rw[u,Ht t];simp[a,f]
 .simp[a,f,i]
theorem Oh(h:fE s (st.at_+1)=false)(d:ranged s st=true):s[st.at_]?=some 45/\s[st.at_+1]?=some 92/\dA ((s[st.at_+2]?).getD (-1))=none/\eF ((s[st.at_+2]?).getD (-1))=none:=by
 unfold ranged at d;split at d
 .rename_i f;simp only[jR,Bool.or_eq_true,jf]at d;obtain⟨⟨m,j⟩,a⟩:=d;have i:=VC (k:=1) rfl m;unfold fE at h;rw[i]at h;simp only at h;have p:aR s st 2=(s[st.at_+1+1]?).getD (-1):=rfl;rw[p]at a;have e:aR s st 1=92:=by
   rcases a with a|a
   .exfalso;rw[bJ j,bJ a]at h;cases h
   .by_cases e:aR s st 1=92
    .exact e
    .rw[bJ j,bJ e]at h;cases h
  have a:(dA ((s[st.at_+1+1]?).getD (-1))).isNone=true:=a.resolve_left (fun r=>r e);rw[e]at h i;refine⟨VC (k:=0) f (by decide),i,Option.isNone_iff_eq_none.1 a,?_⟩;rcases t:eF ((s[st.at_+2]?).getD (-1))with _|y
  .rfl
  .rw[show st.at_+1+1=st.at_+2 from rfl,t]at h;cases h
 .cases d
theorem Hr.acy(h:Hr s R st set b)(r:st.ok=true)(m:b=true\/aR s st 0≠93)(i:(member s st).2.2.ok=true)(K:(member s st).2.1=none->aR s (member s st).2.2 0=45->fE s ((member s st).2.2.at_+1)=false):Hr s R (member s st).2.2 (set++jc (member s st)) false:=by
 cases h with
 |sync k _ _ w e C z D=>
  obtain⟨k,rfl⟩:∃j,k=j+1:=⟨k-1,by omega⟩;rw[gY (by rw[r];rcases m with m|m<;>simp[m])]at e;have A:=iQ (s:=s) z D;have E:=kR (s:=s) i;have p:∀l:List Int,0<l.length->(set++l).isEmpty=false:=fun l L=>by
   cases l with
   |nil=>simp at L
   |cons a t=>simp
  rcases d:(member s st).2.1 with _|l
  .rcases f:ranged s (member s st).2.2 with _|_
   .have u:aO s st=((member s st).1,(member s st).2.2):=by unfold aO;rw[f,Bool.and_false];rfl
    rw[eD d,u]at e;simp only[Int.lt_irrefl,and_false,if_false]at e;have v:jc (member s st)=[(member s st).1,(member s st).1]:=by unfold jc;rw[d]
    rw[v,<-p [(member s st).1,(member s st).1] (by simp)];exact .sync k _ _ i e (by omega) (A.yA i) A.dL
   .obtain⟨M,G,H,I⟩:=Oh (K d (by unfold ranged at f;split at f;assumption;cases f)) f;have u:aO s st=((member s ((member s st).2.2.bump 1)).1,(member s ((member s st).2.2.bump 1)).2.2):=by unfold aO;rw[f,i];rfl
    have F:=vV (st:=(member s st).2.2.bump 1) G H I;rw[eD d,u,F]at e;have B:(((member s st).2.2.bump 1).bump 1|>.fail 5 (((member s st).2.2.bump 1).at_+1:Nat)).ok=false:=St.aW _ (by decide);simp only[B,Bool.false_eq_true,false_and,if_false]at e;rw[dR (by rw[B];rfl)]at e;have J:(member s st).2.2.code=0:=by unfold St.ok at i;exact nM.1 i
    refine .E8 _ _ i M G H I ?_ ?_ A.dL
    .rw[<-e];simp[St.fail,St.bump,J]
    .rw[<-e];simp[St.fail,St.bump,J];omega
  .have Q:=pR (s:=s) d;rw[gT d]at e;have v:jc (member s st)=l:=by unfold jc;rw[d]
   rw[v,<-p l (by omega)];exact .sync k _ _ i e (by omega) (A.yA i) A.dL
 |fail _ _ _ w=>rw[r]at w;cases w
 |E8 _ _ w e C z D N O P=>rw[Ba e];exact .E9 _ _ r C z D N O P
 |E9 _ _ w e C z=>rw[vV e C z]at i;have:=St.aW (c:=5) (b:=(st.at_+1:Nat)) (st.bump 1) (by decide);rw[this]at i;cases i
theorem Hr.acA(h:Hr s R st set b)(D:∀x∈s,0<=x)(r:st.ok=true)(f:b=true\/aR s st 0≠93)(t:(member s st).2.2.ok=true)(u:(member s st).2.1=none)(i:aR s (member s st).2.2 0=45)(v:fE s ((member s st).2.2.at_+1)=true):(¬(member s ((member s st).2.2.bump 1)).1<(member s st).1->Hr s R (member s ((member s st).2.2.bump 1)).2.2 (set++[(member s st).1,(member s ((member s st).2.2.bump 1)).1]) false)/\((member s ((member s st).2.2.bump 1)).1<(member s st).1->R.2.code=5/\R.2.gL=st.at_):=by
 have d:=xD (st:=(member s st).2.2.bump 1) t D v;cases h with
 |sync k _ _ w a z A E=>
  obtain⟨k,rfl⟩:∃j,k=j+1:=⟨k-1,by omega⟩;rw[gY (by rw[r];rcases f with f|f<;>simp[f])]at a;have B:=Gj D v i;have m:aO s st=((member s ((member s st).2.2.bump 1)).1,(member s ((member s st).2.2.bump 1)).2.2):=by unfold aO;rw[B,t];rfl
  have C:=rU (s:=s) A E;have e:=xA (s:=s) A E (by rw[m];exact d.1);rw[m]at C e;rw[eD u,m]at a;simp only[d.1,true_and]at a;refine⟨fun p=>?_,fun p=>?_⟩
  .rw[ae p]at a;have G:(set++[(member s st).1,(member s ((member s st).2.2.bump 1)).1]).isEmpty=false:=by simp
   rw[<-G];have H:st.at_+1<=(member s ((member s st).2.2.bump 1)).2.2.at_:=e;exact .sync k _ _ d.1 a (by omega) (C.yA d.1) C.dL
  .rw[av p]at a;have F:(member s ((member s st).2.2.bump 1)).2.2.code=0:=by have:=d.1;unfold St.ok at this;exact nM.1 this
   rw[dR (by rw[St.aW _ (by decide)];rfl)]at a;rw[<-a];exact⟨by simp[St.fail,F],by simp[St.fail,F]⟩
 |fail _ _ _ w=>rw[r]at w;cases w
 |E8 _ _ w a z=>rw[Ba a]at i;have:aR s (st.bump 1) 0=92:=yf (st:=st.bump 1) (k:=0) z;rw[this]at i;cases i
 |E9 _ _ w a z A=>rw[vV a z A]at t;have:=St.aW (c:=5) (b:=(st.at_+1:Nat)) (st.bump 1) (by decide);rw[this]at t;cases t
theorem Oi(st:St):(jc (member s st)).length<=8:=by
 unfold jc;rcases h:(member s st).2.1 with _|l
 .simp
 .exact(pR (s:=s) h).2.1
end
end RX
structure fU(R:List RX.aA×RX.St)(st:RX.St)(K:Nat)(D:Int)(N:Nat)(l:List RX.aA)(st2:RX.St):Prop where
 len:l.length<=K
 deep:∀x∈l,0<=x.deep/\x.deep<=D
 hi:st2.at_<=N
 op:st2.op=st.op
 good:R.2.ok=true->l=R.1/\st2=R.2
 bad:R.2.ok=false->st2.code=R.2.code/\st2.gL=R.2.gL
theorem fU.ok{R:List RX.aA×RX.St}{st:RX.St}{K:Nat}{D:Int}{N:Nat}{l:List RX.aA}{a:RX.St}(h:fU R st K D N l a):a.ok=R.2.ok:=by
 rcases d:R.2.ok with _|_
 .have:=(h.bad d).1;unfold RX.St.ok at d⊢;rw[this];exact d
 .rw[(h.good d).2];exact d
def QP(rb:Nat)(sv:Value)(w:World)(R:List RX.aA×RX.St)(st:RX.St)(K:Nat)(D:Int)(N:Nat)(e:Ending)(w':World):Prop:=∃l v st2,e=.returned v/\dI w.heap.size w.heap.size w' v l/\QS rb sv w' st2/\Only w w' rb/\fU R st K D N l st2
structure Qc(w0:World)(rb:Nat)(sv:Value)(s:List Int)(w1:World)(st:RX.St)(v:Value)(set:List Int)(wr:World):Prop where
 q:Qn w0 rb sv s wr st
 only:Only w1 wr rb
 own:ay 21 1 Cc w1.heap.size wr v set
 lt:rb<w1.heap.size
section
variable{w0 w1 wr w':World}{rb:Nat}{sv v v':Value}{s:List Int}{st st':RX.St}{set set':List Int}
theorem Qc.call(h:Qc w0 rb sv s w1 st v set wr)(a:Only wr w' rb)(d:QS rb sv w' st'):Qc w0 rb sv s w1 st' v set w':=⟨h.q.step a d,h.only.trans a,h.own.low a h.lt,h.lt⟩
theorem Qc.ex(h:Qc w0 rb sv s w1 st v set wr)(a:Ext wr w'):Qc w0 rb sv s w1 st v set w':=h.call (iO a rb) (a.heap h.q.blk)
theorem Qc.bZ(h:Qc w0 rb sv s w1 st v set wr):Qc w0 rb sv s w1 (st.bump 1) v set (wr.setCell ⟨rb,1,none⟩ (.int .i64 ((st.at_:Int)+1))):=h.call ((aJ _ rb).set _) h.q.bZ.blk
theorem Qc.app(h:Qc w0 rb sv s w1 st v set wr)(i:ay 21 1 Cc w1.heap.size w' v' set')(a:wr.grownBy w' v.ownBlock):Qc w0 rb sv s w1 st v' set' w':=by have d:∀k,v.ownBlock=some k->w1.heap.size<=k:=fun k f=>(h.own.lt k f).1;refine⟨⟨h.q.sl,h.q.lo,h.q.len,h.q.pos,h.q.ext.grown a (fun k f=>by have:=d k f;have:=h.lt;have:=h.q.lo;omega),?_⟩,Only.own (nb:=w1.heap.size) h.only a d (az _),i,h.lt⟩;exact(a.block rb h.q.jk (by intro e;have:=d rb e.symm;have:=h.lt;omega)).trans h.q.blk
end
theorem Dl{B nb:Nat}{w:World}{cs:List Value}{x:RX.aA}(d:nb=w.heap.size)(e:B<=w.heap.size)(h:CR B w cs x):uO B B (w.alloc (.cells cs.toArray 126)) (.slice (some ⟨nb,0,none⟩) 1 1) [x]:=by
 refine jP (w:=w) cs.toArray [x] _ _ d rfl e (by simp) (by rw[List.size_toArray,h.len];rfl) ?_;intro k y a;match k,a with
 |0,a=>simp at a;subst a;exact⟨cs,dE B _ _ _ _ (au ((aa w).alloc _)) h,h.len,fun i u f=>by simpa using f⟩
theorem mY(B:Nat)(neg:Bool)(set:List Int)(d:Value)(w:World)(a:aT 21 1 Cc B w d set)(e:B<=w.heap.size):Calls Tryz.prog 149 #[.bool neg,d] w (Du (fun w' v=>dI B B w' v [RX.node 2 0 0 false neg set]) w):=by have f:=jd a;obtain⟨A,c,rfl,-⟩:=a.form;clear a;go_enter Tryz.func149,Tryz.ntmps149;go_wp2_with fail;go_ret;exact⟨_,rfl,(Dl rfl e (CR.mk f.o)).sl,(aa w).alloc _⟩
theorem RX.Hr.failed{s:List Int}{R:List Int×RX.St}{st:RX.St}{set:List Int}{b:Bool}(h:RX.Hr s R st set b)(a:st.ok=false):st.code=R.2.code/\st.gL=R.2.gL/\R.2.ok=false:=by
 cases h with
 |sync k _ _ d=>rw[a]at d;cases d
 |fail _ _ _ d e f=>exact⟨e,f,by unfold RX.St.ok at a⊢;rw[<-e];exact a⟩
 |E8 _ _ d=>rw[a]at d;cases d
 |E9 _ _ d=>rw[a]at d;cases d
theorem fU.cls{R:List Int×RX.St}{st a:RX.St}{set:List Int}{neg:Bool}{n:Nat}(e:a.op=st.op)(f:a.at_+1<=n)(h:(R=(set,a))\/(R.2.ok=false/\a.code=R.2.code/\a.gL=R.2.gL)):fU ([RX.node 2 0 0 false neg R.1],R.2.bump 1) st 1 0 n [RX.node 2 0 0 false neg set] (a.bump 1):=by
 refine⟨by simp,fun x i=>by simp at i;subst i;exact⟨tK _,tK _⟩,f,e,fun d=>?_,fun d=>?_⟩
 .rcases h with rfl|⟨j,-⟩
  .exact⟨rfl,rfl⟩
  .have d:R.2.ok=true:=d;rw[j]at d;cases d
 .rcases h with rfl|⟨-,k⟩
  .exact⟨rfl,rfl⟩
  .exact k
theorem fU.eU{R:List RX.aA×RX.St}{st a:RX.St}{n:Nat}(d:a.op=st.op)(e:a.at_<=n)(f:R.2.ok=false)(i:a.code=R.2.code)(j:a.gL=R.2.gL):fU R st 1 0 n [] a:=⟨by simp,by simp,e,d,(fun h=>by rw[f]at h;cases h),fun _=>⟨i,j⟩⟩
section
variable{w0:World}{rb:Nat}{sv:Value}{s:List Int}
theorem Oj(G:World)(st:RX.St)(he:Qn w0 rb sv s G st)(hok:st.ok=true)(ha:st.at_<s.length)(h9:st.aC<=9):Calls Tryz.prog 151 #[.pointer (some ⟨rb,0,none⟩)] G (QP rb sv G (RX.gZ s (st.bump 1)) st 1 0 (s.length+4)):=by
 have oF:=he.len;have Sc:=jd he.pos;have kJ:=jd (show Qc w0 rb sv s G st (.slice none 0 0) [] G from⟨he,aJ _ _,dO,he.jk⟩);obtain⟨c,hc⟩:∃c,RX.aR s (st.bump 1) 0=c:=⟨_,rfl⟩;obtain⟨neg,V⟩:∃neg,decide (c=94)=neg:=⟨_,rfl⟩;obtain⟨u,DV⟩:∃x,(if neg=true then(st.bump 1).bump 1 else st.bump 1)=x:=⟨_,rfl⟩;obtain⟨R,hR⟩:∃x,RX.dw s (s.length+2-u.at_) u []=x:=⟨_,rfl⟩;have hcp:RX.gZ s (st.bump 1)=([RX.node 2 0 0 false neg R.1],R.2.bump 1):=by unfold RX.gZ;simp only;rw[hc,V,DV,hR]
 have HCP:=jd hcp;rw[hcp];have h1a:u.at_<=s.length/\u.aC<=9/\u.op=st.op/\u.ok=true:=by
  rw[<-DV];split
  .rename_i h;have rM:c=94:=uz (V.trans h);exact⟨RX.dN (k:=0) (st:=st.bump 1) (by rw[hc,rM];decide),h9,rfl,hok⟩
  .exact⟨ha,h9,rfl,hok⟩
 have aef:=jd (show RX.Hr s R u [] true from .sync (s.length+2-u.at_) u [] h1a.2.2.2 hR (by omega) h1a.1 h1a.2.1);have HN:=jd hc;have aay:=jd V;have acB:=jd DV;have H1A:=jd h1a;have afq:u.at_<=s.length:=h1a.1;clear he hok hc DV hR hcp h1a;go_enter Tryz.func151,Tryz.ntmps151;have c1:=kJ.o.q.blk.c1;have f1:=kJ.o.q.blk.fr 1;go_upto_region 2 with fail;have dY:=jd kJ.o.bZ;generalize G.setCell _ _=w2 at dY⊢;clear c1 f1;go_upto_if 21 with(go_at_call 106;refine(dz _ _ dY.o.q).mono ?_;rw[HN.o];rintro e w3⟨rfl,a⟩;have bQ:=jd (dY.o.ex a);have eZ:=jd a;clear a);go_cut[](fun wx=>Qc w0 rb sv s G u (.slice none 0 0) [] wx);case first=>
  by_cases rM:c=94
  .have hst:u=(st.bump 1).bump 1:=by rw[<-acB.o,<-aay.o,bJ rM,av rfl]
   have HST:=jd hst;have Zx:(c==94)=true:=by simpa using rM
   have c1:=bQ.o.q.blk.c1;have f1:=bQ.o.q.blk.fr 1;have hb1:(st.bump 1).at_<=100:=by show st.at_+1<=100;omega
   clear hst rM;go_wp2_with fail;go_meet;rw[HST.o];exact bQ.o.bZ
  .have hst:u=st.bump 1:=by rw[<-acB.o,<-aay.o,bR rM];rfl
   have HST:=jd hst;have Zx:(c==94)=false:=by simpa using rM
   clear hst rM;go_wp2_with fail;go_meet;rw[HST.o];exact bQ.o
 case rest=>
  have bS:=jd hcut;have hbn:(c==94)=neg:=by rw[<-aay.o];by_cases h:c=94<;>simp[h]
  simp only[hbn];clear hcut hbn V;go_wp2_with fail;go_loopg[4,5](s.length+2-u.at_)(fun k v b wr=>∃(f:RX.St)(set:List Int)(bb:Bool),b=.bool bb/\Qc w0 rb sv s G f v set wr/\RX.Hr s R f set bb/\f.op=st.op/\set.length<=8*f.at_/\f.at_<=s.length+2/\(f.ok=true->s.length+1<=k+f.at_));case atStart=>exact⟨u,[],true,rfl,bS.o,aef.o,H1A.o.2.2.1,by simp,by omega,fun _=>by omega⟩
  case round=>
   obtain⟨f,set,bb,rfl,hcc,r,hop,hsl,hat,hkk⟩:=hrel;have cB:=jd hcc;have CV:=jd r;have Dm:=jd hop;obtain⟨Ao,co,rfl,-⟩:=hcc.own.form;rcases t:f.ok with _|_
   .have HF:=jd (r.failed t);have kM:=jd t;clear hcc r hop hkk t;go_upto_region 20 with(go_at_call 90;refine(dX _ _ cB.o.q).mono ?_;rw[kM.o];rintro e w6⟨rfl,a⟩;have fe:=jd (cB.o.ex a);have WS:=jd a;clear a);have c1:=fe.o.q.blk.c1;have f1:=fe.o.q.blk.fr 1;go_upto_region 21 with fail;have F:=jd fe.o.bZ;generalize w6.setCell _ _=w7 at F⊢;clear c1 f1;go_wp2_with(go_at_call 149;refine(mY G.heap.size neg _ _ _ F.o.own.sl F.o.only.size).mono ?_;rintro e wz⟨vz,rfl,nT,hxz⟩;have Ca:=jd nT;have ug:=jd (F.o.ex hxz);clear nT hxz);go_ret;exact⟨_,_,_,rfl,Ca.o,ug.o.q.blk,ug.o.only,fU.cls Dm.o (by omega) (.inr ⟨HF.o.2.2,HF.o.1,HF.o.2.1⟩)⟩
   have kM:=jd t;have hhi:=r.hi t;have hkk:=hkk t;obtain⟨k,rfl⟩:∃k,gk=k+1:=⟨gk-1,by omega⟩;have K:=jd (fun(C:bb=true\/RX.aR s f 0≠93)h=>r.bad t C h);have X:=jd (fun(C:bb=true\/RX.aR s f 0≠93)p E=>r.acy t C p E);have rA:=jd (fun(C:bb=true\/RX.aR s f 0≠93)a1 a2 a3 a4=>r.acA Sc.o t C a1 a2 a3 a4);have O:=jd (RX.iQ (s:=s) hhi.1 hhi.2);have X8:=jd (fun h=>RX.kR (s:=s) (st:=f) h);have HSE:=jd (RX.Oi (s:=s) f);obtain⟨cn,hcn⟩:∃x,RX.aR s f 0=x:=⟨_,rfl⟩;have Yb:=jd hcn;rw[hcn]at K X rA;have HME:=jd (fun w h=>BV (w0:=w0) (rb:=rb) (sv:=sv) (s:=s) w f h t (by omega));unfold MeP at HME;obtain⟨m,hm⟩:∃x,RX.member s f=x:=⟨_,rfl⟩;rw[hm]at K X rA O X8 HME HSE;obtain⟨x,so,A⟩:=m;dsimp only at K X rA O X8 HME HSE;clear hcc hop t hcn hm;rcases bb with _|_;focus
    by_cases BZ:cn=93
    .have hRR:=r.exit kM.o (Yb.o.trans BZ);have HRR:=jd hRR;have b93:(cn !=93)=false:=by simpa using BZ
     clear r hRR BZ;go_upto_region 20 with(first|(go_at_call 90;refine(dX _ _ cB.o.q).mono ?_;rw[kM.o];rintro e w6⟨rfl,a⟩;have fe:=jd (cB.o.ex a);have WS:=jd a;clear a)|(go_at_call 106;refine(dz _ _ fe.o.q).mono ?_;rw[Yb.o];rintro e w7⟨rfl,a⟩;have F:=jd (fe.o.ex a);have Gz:=jd a;clear a));have c1:=F.o.q.blk.c1;have f1:=F.o.q.blk.fr 1;go_upto_region 21 with fail;have lv:=jd F.o.bZ;generalize w7.setCell _ _=w8 at lv⊢;clear c1 f1;go_wp2_with(go_at_call 149;refine(mY G.heap.size neg _ _ _ lv.o.own.sl lv.o.only.size).mono ?_;rintro e wz⟨vz,rfl,nT,hxz⟩;have Ca:=jd nT;have ug:=jd (lv.o.ex hxz);clear nT hxz);go_ret;exact⟨_,_,_,rfl,Ca.o,ug.o.q.blk,ug.o.only,fU.cls Dm.o (by omega) (.inl HRR.o)⟩
    focus
     have C:false=true\/cn≠93:=.inr BZ;have Yn:=jd C;have b93:(cn !=93)=true:=by simpa using BZ
     clear r C BZ;have c1:=cB.o.q.blk.c1;go_upto_region 9 with(first|(go_at_call 90;refine(dX _ _ cB.o.q).mono ?_;rw[kM.o];rintro e w6⟨rfl,a⟩;have fe:=jd (cB.o.ex a);have WS:=jd a;clear a)|(go_at_call 106;refine(dz _ _ fe.o.q).mono ?_;rw[Yb.o];rintro e w7⟨rfl,a⟩;have F:=jd (fe.o.ex a);have Gz:=jd a;clear a));clear c1 b93;have c1:=F.o.q.blk.c1;go_upto_region 10 with fail;clear c1;go_wp2_with fail;refine(HME.o _ F.o.q).mono ?_;rintro e wm⟨L,hme⟩;rcases hme with⟨M,vm,rfl,hv,Y⟩|⟨M,rfl,stb,Y,P⟩;rotate_left
     .have j:=jd (F.o.call L Y);have rJ:=jd P;have HB:=jd (K.o Yn.o M);have H:=jd (show stb.ok=false by rw[P.ok];exact M);clear L Y P M;go_wp2_with(go_at_call 90;refine(dX _ _ j.o.q).mono ?_;rw[H.o];rintro e Q⟨rfl,a⟩;have z:=jd (j.o.ex a);skip;clear a);go_ret;exact⟨[],_,stb,rfl,aS,z.o.q.blk,z.o.only,fU.eU (rJ.o.op.trans Dm.o) (by have:=rJ.o.hi;omega) (show R.2.ok=false from HB.o.1) (rJ.o.code.trans HB.o.2.1.symm) (rJ.o.gL.trans HB.o.2.2.symm)⟩
     have j:=jd (F.o.call L Y);have VD:=jd (jq hv F.o.only.size);have H:=jd M;have hmo:=X8.o M;have aeg:=O.o.yA M;have Ol:=jd (O.o.op.trans Dm.o);have hse:=HSE.o;obtain⟨Am,cm,rfl,I,-⟩:=hv.form;clear L Y hv M;rcases so with _|l;rotate_left
     .have Z:RX.jc (x,some l,A)=l:=rfl;rw[Z]at VD I hse X⊢;have uw:=jd (X.o Yn.o H.o (fun h=>by cases h));clear Z I;go_wp2_with(first|(go_at_call 90;refine(dX _ _ j.o.q).mono ?_;rw[H.o];rintro e Q⟨rfl,a⟩;have z:=jd (j.o.ex a);have Fa:=jd (VD.o.keep (dQ []) (au a) (au a));clear a)|(at_builtin;refine oN rfl _ _ rfl G.heap.size _ _ set l z.o.own rfl rfl (aT.mV Fa.o) ?hn ?hB ?_;(case hn=>(first|omega|(simp only[aF,aN];omega)));(case hB=>exact z.o.only.size);intro va wa p E;generalize d:set++l=set2 at p;have zA:=jd (z.o.app p E);have i:=jd d;obtain⟨Aa,ca,rfl,-⟩:=p.form;clear p E d));go_roundg k;case measure=>omega
      case rel=>exact⟨A,set2,false,rfl,zA.o,by rw[<-i.o];exact uw.o,Ol.o,by rw[<-i.o,ai];omega,by omega,fun _=>by omega⟩
     have Z:RX.jc (x,none,A)=[x,x]:=rfl;rw[Z]at VD I hse X⊢;obtain⟨c2,S⟩:∃y,RX.aR s A 0=y:=⟨_,rfl⟩;have VE:=jd S;rw[S]at X rA;clear Z I S;by_cases D:c2=45;rotate_left
     .have b45:(c2==45)=false:=by simpa using D
      have uw:=jd (X.o Yn.o H.o (fun _ h=>absurd h D));clear D;go_wp2_with(first|(go_at_call 90;refine(dX _ _ j.o.q).mono ?_;rw[H.o];rintro e Q⟨rfl,a⟩;have z:=jd (j.o.ex a);have Fa:=jd (VD.o.keep (dQ []) (au a) (au a));clear a)|(go_at_call 106;refine(dz _ _ z.o.q).mono ?_;rw[VE.o];rintro e wP2⟨rfl,a⟩;have T:=jd (z.o.ex a);have Om:=jd (Fa.o.keep (dQ []) (au a) (au a));clear a)|(at_builtin;refine oN rfl _ _ rfl G.heap.size _ _ set [x,x] T.o.own rfl rfl (aT.mV Om.o) ?hn ?hB ?_;(case hn=>(first|omega|(simp only[aF,aN];omega)));(case hB=>exact T.o.only.size);intro va wa p E;generalize d:set++[x,x]=set2 at p;have zA:=jd (T.o.app p E);have i:=jd d;obtain⟨Aa,ca,rfl,-⟩:=p.form;clear p E d));go_roundg k;case measure=>omega
      case rel=>exact⟨A,set2,false,rfl,zA.o,by rw[<-i.o];exact uw.o,Ol.o,by rw[<-i.o,ai];simp only[aF,aN];omega,by omega,fun _=>by omega⟩
    rotate_left
   rotate_left;focus
    have C:true=true\/cn≠93:=.inl rfl;have Yn:=jd C;clear r C;go_upto_region 9 with(go_at_call 90;refine(dX _ _ cB.o.q).mono ?_;rw[kM.o];rintro e w6⟨rfl,a⟩;have fe:=jd (cB.o.ex a);have WS:=jd a;clear a);have F:=fe;obtain⟨w7,hw7⟩:∃x,x=w6:=⟨_,rfl⟩;subst hw7;have c1:=F.o.q.blk.c1;go_upto_region 10 with fail;clear c1;go_wp2_with fail;refine(HME.o _ F.o.q).mono ?_;rintro e wm⟨L,hme⟩;rcases hme with⟨M,vm,rfl,hv,Y⟩|⟨M,rfl,stb,Y,P⟩;rotate_left
    .have j:=jd (F.o.call L Y);have rJ:=jd P;have HB:=jd (K.o Yn.o M);have H:=jd (show stb.ok=false by rw[P.ok];exact M);clear L Y P M;go_wp2_with(go_at_call 90;refine(dX _ _ j.o.q).mono ?_;rw[H.o];rintro e Q⟨rfl,a⟩;have z:=jd (j.o.ex a);skip;clear a);go_ret;exact⟨[],_,stb,rfl,aS,z.o.q.blk,z.o.only,fU.eU (rJ.o.op.trans Dm.o) (by have:=rJ.o.hi;omega) (show R.2.ok=false from HB.o.1) (rJ.o.code.trans HB.o.2.1.symm) (rJ.o.gL.trans HB.o.2.2.symm)⟩
    have j:=jd (F.o.call L Y);have VD:=jd (jq hv F.o.only.size);have H:=jd M;have hmo:=X8.o M;have aeg:=O.o.yA M;have Ol:=jd (O.o.op.trans Dm.o);have hse:=HSE.o;obtain⟨Am,cm,rfl,I,-⟩:=hv.form;clear L Y hv M;rcases so with _|l;rotate_left
    .have Z:RX.jc (x,some l,A)=l:=rfl;rw[Z]at VD I hse X⊢;have uw:=jd (X.o Yn.o H.o (fun h=>by cases h));clear Z I;go_wp2_with(first|(go_at_call 90;refine(dX _ _ j.o.q).mono ?_;rw[H.o];rintro e Q⟨rfl,a⟩;have z:=jd (j.o.ex a);have Fa:=jd (VD.o.keep (dQ []) (au a) (au a));clear a)|(at_builtin;refine oN rfl _ _ rfl G.heap.size _ _ set l z.o.own rfl rfl (aT.mV Fa.o) ?hn ?hB ?_;(case hn=>(first|omega|(simp only[aF,aN];omega)));(case hB=>exact z.o.only.size);intro va wa p E;generalize d:set++l=set2 at p;have zA:=jd (z.o.app p E);have i:=jd d;obtain⟨Aa,ca,rfl,-⟩:=p.form;clear p E d));go_roundg k;case measure=>omega
     case rel=>exact⟨A,set2,false,rfl,zA.o,by rw[<-i.o];exact uw.o,Ol.o,by rw[<-i.o,ai];omega,by omega,fun _=>by omega⟩
    have Z:RX.jc (x,none,A)=[x,x]:=rfl;rw[Z]at VD I hse X⊢;obtain⟨c2,S⟩:∃y,RX.aR s A 0=y:=⟨_,rfl⟩;have VE:=jd S;rw[S]at X rA;clear Z I S;by_cases D:c2=45;rotate_left
    .have b45:(c2==45)=false:=by simpa using D
     have uw:=jd (X.o Yn.o H.o (fun _ h=>absurd h D));clear D;go_wp2_with(first|(go_at_call 90;refine(dX _ _ j.o.q).mono ?_;rw[H.o];rintro e Q⟨rfl,a⟩;have z:=jd (j.o.ex a);have Fa:=jd (VD.o.keep (dQ []) (au a) (au a));clear a)|(go_at_call 106;refine(dz _ _ z.o.q).mono ?_;rw[VE.o];rintro e wP2⟨rfl,a⟩;have T:=jd (z.o.ex a);have Om:=jd (Fa.o.keep (dQ []) (au a) (au a));clear a)|(at_builtin;refine oN rfl _ _ rfl G.heap.size _ _ set [x,x] T.o.own rfl rfl (aT.mV Om.o) ?hn ?hB ?_;(case hn=>(first|omega|(simp only[aF,aN];omega)));(case hB=>exact T.o.only.size);intro va wa p E;generalize d:set++[x,x]=set2 at p;have zA:=jd (T.o.app p E);have i:=jd d;obtain⟨Aa,ca,rfl,-⟩:=p.form;clear p E d));go_roundg k;case measure=>omega
     case rel=>exact⟨A,set2,false,rfl,zA.o,by rw[<-i.o];exact uw.o,Ol.o,by rw[<-i.o,ai];simp only[aF,aN];omega,by omega,fun _=>by omega⟩
   rotate_left;all_goals
    have b45:(c2==45)=true:=by simpa using D
    have HSI:=jd (fun w h=>(show Calls Tryz.prog 157 #[.pointer (some ⟨rb,0,none⟩),.int .i64 ((A.at_:Int)+1)] w (Vx (.bool (RX.fE s (A.at_+1))) w)from Lr (w0:=w0) (sv:=sv) w A h (A.at_+1) (by omega)));rcases J:RX.fE s (A.at_+1)with _|_
    .have NK:=jd J;have uw:=jd (X.o Yn.o H.o (fun _ _=>J));rw[J]at HSI;clear D J;go_upto_region 13 with(go_at_call 90;refine(dX _ _ j.o.q).mono ?_;rw[H.o];rintro e Q⟨rfl,a⟩;have z:=jd (j.o.ex a);have Fa:=jd (VD.o.keep (dQ []) (au a) (au a));clear a);have c1:=z.o.q.blk.c1;go_wp2_with(first|(go_at_call 106;refine(dz _ _ z.o.q).mono ?_;rw[VE.o];rintro e wP2⟨rfl,a⟩;have T:=jd (z.o.ex a);have c1:=T.o.q.blk.c1;have Om:=jd (Fa.o.keep (dQ []) (au a) (au a));clear a)|(go_at_call 157;refine(HSI.o _ T.o.q).mono ?_;rintro e wQ2⟨rfl,a⟩;have Oo:=jd (T.o.ex a);have aaz:=jd (Om.o.keep (dQ []) (au a) (au a));clear a)|(at_builtin;refine oN rfl _ _ rfl G.heap.size _ _ set [x,x] Oo.o.own rfl rfl (aT.mV aaz.o) ?hn ?hB ?_;(case hn=>(first|omega|(simp only[aF,aN];omega)));(case hB=>exact Oo.o.only.size);intro va wa p E;generalize d:set++[x,x]=set2 at p;have zA:=jd (Oo.o.app p E);have i:=jd d;obtain⟨Aa,ca,rfl,-⟩:=p.form;clear p E d));go_roundg k;case measure=>omega
     case rel=>exact⟨A,set2,false,rfl,zA.o,by rw[<-i.o];exact uw.o,Ol.o,by rw[<-i.o,ai];simp only[aF,aN];omega,by omega,fun _=>by omega⟩
    have Yo:=jd (rA.o Yn.o H.o rfl D J);rw[J]at HSI;have Zy:A.at_+1<=s.length:=by obtain⟨cc,aeh,-⟩:=RX.uQ J;exact Nat.le_of_lt (dh.1 aeh).1
    have hms:=RX.xD (s:=s) (st:=A.bump 1) H.o Sc.o J;have Yp:=jd (RX.iQ (s:=s) (st:=A.bump 1) Zy O.o.dL);have aaA:=jd (RX.kR (s:=s) (st:=A.bump 1) hms.1);have Yq:=jd (fun w h=>BV (w0:=w0) (rb:=rb) (sv:=sv) (s:=s) w (A.bump 1) h H.o (by show A.at_+1<=1000;omega));unfold MeP at Yq;obtain⟨m2,hm2⟩:∃y,RX.member s (A.bump 1)=y:=⟨_,rfl⟩;rw[hm2]at Yo hms Yp aaA Yq;obtain⟨y,so2,qI⟩:=m2;dsimp only at Yo hms Yp aaA Yq;obtain⟨IL,rfl⟩:=hms;have Ls:=jd IL;have afr:=Yp.o.yA IL;have afs:A.at_+2<=qI.at_:=aaA.o;have acC:=jd ((Yp.o.op).trans Ol.o);clear D J hm2 Zy IL;go_upto_region 13 with(go_at_call 90;refine(dX _ _ j.o.q).mono ?_;rw[H.o];rintro e Q⟨rfl,a⟩;have z:=jd (j.o.ex a);have Fa:=jd (VD.o.keep (dQ []) (au a) (au a));clear a);have c1:=z.o.q.blk.c1;go_upto_region 14 with(first|(go_at_call 106;refine(dz _ _ z.o.q).mono ?_;rw[VE.o];rintro e wP2⟨rfl,a⟩;have T:=jd (z.o.ex a);have c1:=T.o.q.blk.c1;have Om:=jd (Fa.o.keep (dQ []) (au a) (au a));clear a)|(go_at_call 157;refine(HSI.o _ T.o.q).mono ?_;rintro e wQ2⟨rfl,a⟩;have Oo:=jd (T.o.ex a);have aaz:=jd (Om.o.keep (dQ []) (au a) (au a));clear a));clear c1;have c1:=Oo.o.q.blk.c1;have f1:=Oo.o.q.blk.fr 1;go_upto_region 15 with fail;have Zz:=jd Oo.o.bZ;have acD:=jd (aaz.o.dW (jh _) (kD ((aJ wQ2 rb).set (o:=1) (.int .i64 ((A.at_:Int)+1))) kJ.o.lt));generalize wQ2.setCell _ _=wR at Zz acD⊢;clear c1 f1;go_wp2_with fail;refine(Yq.o _ Zz.o.q).mono ?_;rintro e wS⟨L,hme⟩;obtain⟨vS,rfl,hvS,hqS⟩:∃v,e=.returned (.tuple #[v,.bool (none:Option (List Int)).isNone])/\aT 21 1 Cc wR.heap.size wS v (RX.jc (y,none,qI))/\QS rb sv wS qI:=by
     rcases hme with⟨-,h⟩|⟨h,-⟩
     .exact h
     .rw[Ls.o]at h;cases h
    have Z:RX.jc (y,none,qI)=[y,y]:=rfl;rw[Z]at hvS;have HCS:=jd (Zz.o.call L hqS);have acE:=jd (acD.o.dW (jh _) (kD L kJ.o.lt));have TZ:=jd hvS;obtain⟨AS,cS,rfl,-⟩:=hvS.form;obtain⟨g1,o1,rfl,q1,-⟩:=AZ acE.o;obtain⟨g2,o2,rfl,q2,-⟩:=AZ TZ.o;clear L hme hvS hqS Z;go_upto_region 16 with fail;have hb1:G.heap.size<=g1:=by obtain⟨_,_,hv,_,_,_,hA⟩:=acE.o;injection hv with e1 _ _;obtain⟨_,_,_,e2,e3,_⟩:=hA _ e1.symm;injection e2 with e2 _ _;omega
    have hb2:G.heap.size<=g2:=by obtain⟨_,_,hv,_,_,_,hA⟩:=TZ.o;injection hv with e1 _ _;obtain⟨_,_,_,e2,e3,_⟩:=hA _ e1.symm;injection e2 with e2 _ _;have:=Zz.o.only.size;omega
    have hrb:=kJ.o.lt;by_cases hyx:y<x
    .have hd:decide (y<x)=true:=bJ hyx;have HB2:=jd (Yo.o.2 hyx);clear hyx;go_quiet(fail);go_upto_region 17 with fail;generalize hT:wS.drewN _=wT;have Yr:Ext wS wT:=by rw[<-hT];exact(aa _).drewN _
     have HCT:=jd (HCS.o.ex Yr);replace q1:=Yr.cell q1;replace q2:=Yr.cell q2;clear hT Yr;go_upto_region 18 with(go_at_call 91;refine(iK _ _ 5 (f.at_:Int) HCT.o.q).mono ?_;rintro e N⟨rfl,Y,L⟩;have HCU:=jd (HCT.o.call L Y);have HYU:=jd L;clear Y L);replace q1:=World.grownBy.cell HYU.o q1 (by intro e;injection e with e;simp only at e;omega);replace q2:=World.grownBy.cell HYU.o q2 (by intro e;injection e with e;simp only at e;omega);go_region_held3(fun w'=>w'.cell? ⟨g1,o1,none⟩=some (.int .i32 x)/\w'.cell? ⟨g2,o2,none⟩=some (.int .i32 y))(first|go_keep|(go_split_ands;refine⟨?_,?_⟩<;>assumption))(fail);have HFK:=jd (show(qI.fail 5 f.at_).ok=false/\(qI.fail 5 f.at_).code=R.2.code/\(qI.fail 5 f.at_).gL=R.2.gL from by
      have hk4:qI.code=0:=by simpa[RX.St.ok]using Ls.o
      refine⟨?_,?_,?_⟩
      .simp[RX.St.fail,RX.St.ok,hk4]
      .rw[HB2.o.1];simp[RX.St.fail,hk4]
      .rw[HB2.o.2];simp[RX.St.fail,hk4]);have hfo:(qI.fail 5 f.at_).op=qI.op:=by unfold RX.St.fail;split<;>rfl
     have hfa:(qI.fail 5 f.at_).at_=qI.at_:=by unfold RX.St.fail;split<;>rfl
     have hxL:Ext N (N.alloc (.cells #[.int .i32 x,.int .i32 y] 21)).drew:=((aa _).alloc _).drew;have Je:=jd (HCU.o.ex hxL);have U:=jd (show ib (N.alloc (.cells #[.int .i32 x,.int .i32 y] 21)).drew (.slice (some ⟨N.heap.size,0,none⟩) 2 2) [x,y]from(aT.mV (BD (B:=0) N [x,y] _ _ rfl rfl (aL _) (by simp))).ext (ak (aa _)));clear hxL;generalize(N.alloc _).drew=wL at Je U⊢;generalize N.heap.size=nl at U⊢;go_wp2_with(at_builtin;refine oN rfl _ _ rfl G.heap.size _ _ set [x,y] Je.o.own rfl rfl U.o ?hn ?hB ?_;(case hn=>(first|omega|(simp only[aF,aN];omega)));(case hB=>exact Je.o.only.size);intro va wa p E;generalize d:set++[x,y]=set2 at p;have zA:=jd (Je.o.app p E);have i:=jd d;obtain⟨Aa,ca,rfl,-⟩:=p.form;clear p E d);go_roundg k;case measure=>omega
     case rel=>exact⟨qI.fail 5 f.at_,set2,false,rfl,zA.o,by rw[<-i.o];exact .fail _ _ _ HFK.o.1 HFK.o.2.1 HFK.o.2.2,hfo.trans acC.o,by rw[<-i.o,ai];simp only[aF,aN];omega,by omega,fun h=>by omega⟩
    .have hd:decide (y<x)=false:=bR hyx;have HB2:=jd (Yo.o.1 (by omega));clear hyx;go_quiet(fail);go_upto_region 18 with fail;generalize hT:wS.drewN _=N;have Yr:Ext wS N:=by rw[<-hT];exact(aa _).drewN _
     have HCU:=jd (HCS.o.ex Yr);replace q1:=Yr.cell q1;replace q2:=Yr.cell q2;clear hT Yr;go_region_held3(fun w'=>w'.cell? ⟨g1,o1,none⟩=some (.int .i32 x)/\w'.cell? ⟨g2,o2,none⟩=some (.int .i32 y))(first|go_keep|(go_split_ands;refine⟨?_,?_⟩<;>assumption))(fail);have hxL:Ext N (N.alloc (.cells #[.int .i32 x,.int .i32 y] 21)).drew:=((aa _).alloc _).drew;have Je:=jd (HCU.o.ex hxL);have U:=jd (show ib (N.alloc (.cells #[.int .i32 x,.int .i32 y] 21)).drew (.slice (some ⟨N.heap.size,0,none⟩) 2 2) [x,y]from(aT.mV (BD (B:=0) N [x,y] _ _ rfl rfl (aL _) (by simp))).ext (ak (aa _)));clear hxL;generalize(N.alloc _).drew=wL at Je U⊢;generalize N.heap.size=nl at U⊢;go_wp2_with(at_builtin;refine oN rfl _ _ rfl G.heap.size _ _ set [x,y] Je.o.own rfl rfl U.o ?hn ?hB ?_;(case hn=>(first|omega|(simp only[aF,aN];omega)));(case hB=>exact Je.o.only.size);intro va wa p E;generalize d:set++[x,y]=set2 at p;have zA:=jd (Je.o.app p E);have i:=jd d;obtain⟨Aa,ca,rfl,-⟩:=p.form;clear p E d);go_roundg k;case measure=>omega
     case rel=>exact⟨qI,set2,false,rfl,zA.o,by rw[<-i.o];exact HB2.o,acC.o,by rw[<-i.o,ai];simp only[aF,aN];omega,by omega,fun h=>by omega⟩
end
namespace RX
def nJ(s:List Int)(st:St):St:=let a:=must s (st.bump 1);let b:=high s a.1 a.2;let c:=if b.2.ok=true/\aR s b.2 0≠125 then b.2.fail 5 b.2.at_ else b.2;if c.ok=true then(if 0<=b.1/\b.1<a.1 then(c.bump 1).fail 5 st.at_ else c.bump 1)else c
theorem oW(st:St)(c b:Int):(st.fail c b).at_=st.at_:=by unfold St.fail;split<;>rfl
theorem sM(st:St)(c b:Int):(st.fail c b).op=st.op:=by unfold St.fail;split<;>rfl
theorem VF(st:St)(b:Int):(st.fail 5 b).ok=false:=by
 unfold St.fail St.ok;split
 .rfl
 .rename_i h;simpa using h
theorem Jf(s:List Int)(st:St):(must s st).2.at_<=st.at_+1/\(must s st).2.op=st.op:=by
 unfold must;split
 .exact⟨by rw[oW];omega,sM _ _ _⟩
 .exact⟨az _,rfl⟩
theorem Qu(s:List Int)(lo:Int)(st:St):(high s lo st).2.at_<=st.at_+2/\(high s lo st).2.op=st.op:=by
 unfold high;split
 .split
  .have:=Jf s (st.bump 1);exact⟨this.1,this.2⟩
  .exact⟨Nat.le_succ _,rfl⟩
 .exact⟨Nat.le_add_right _ _,rfl⟩
theorem VG(s:List Int)(st:St):(nJ s st).at_<=st.at_+5/\(nJ s st).op=st.op:=by
 unfold nJ;simp only;have f:=Jf s (st.bump 1);have e:=Qu s (must s (st.bump 1)).1 (must s (st.bump 1)).2;have m:(st.bump 1).at_=st.at_+1:=rfl;have d:(st.bump 1).op=st.op:=rfl;generalize must s (st.bump 1)=a at f e;generalize high s a.1 a.2=b at e;have j:∀c:St,c=(if b.2.ok=true/\aR s b.2 0≠125 then b.2.fail 5 b.2.at_ else b.2)->c.at_=b.2.at_/\c.op=b.2.op:=by
  intro c k;rw[k];split
  .exact⟨oW _ _ _,sM _ _ _⟩
  .exact⟨rfl,rfl⟩
 have h:=j _ rfl;generalize(if b.2.ok=true/\aR s b.2 0≠125 then b.2.fail 5 b.2.at_ else b.2)=c at h;have i:(c.bump 1).at_=c.at_+1/\(c.bump 1).op=c.op:=⟨rfl,rfl⟩;split
 .split
  .rw[oW,sM];exact⟨by omega,by rw[i.2,h.2,e.2,f.2,d]⟩
  .exact⟨by omega,by rw[i.2,h.2,e.2,f.2,d]⟩
 .exact⟨by omega,by rw[h.2,e.2,f.2,d]⟩
theorem Jg(s:List Int)(st:St):((bounds s st).2.2.ok=true->nJ s st=(bounds s st).2.2)/\((bounds s st).2.2.ok=false->(nJ s st).code=(bounds s st).2.2.code/\(nJ s st).gL=(bounds s st).2.2.gL):=by
 unfold nJ bounds;simp only;generalize must s (st.bump 1)=a;generalize high s a.1 a.2=b;generalize(if b.2.ok=true/\aR s b.2 0≠125 then b.2.fail 5 b.2.at_ else b.2)=c;have e:(c.bump 1).ok=c.ok:=rfl;rcases f:c.ok with _|_
 .have i:¬((c.bump 1).ok=true/\0<=b.1/\b.1<a.1):=by rw[e,f];simp
  rw[ae i,e,f];exact⟨fun h=>(by cases h),fun _=>⟨rfl,rfl⟩⟩
 .by_cases d:0<=b.1/\b.1<a.1
  .rw[av ⟨e.trans f,d⟩,av rfl,av d];exact⟨fun _=>rfl,fun _=>⟨rfl,rfl⟩⟩
  .rw[ae (fun h=>d h.2),av rfl,ae d];exact⟨fun _=>rfl,fun _=>⟨rfl,rfl⟩⟩
end RX
structure Qb(w0:World)(rb:Nat)(sv:Value)(s:List Int)(w1:World)(st:RX.St)(wr:World):Prop where
 q:Qn w0 rb sv s wr st
 only:Only w1 wr rb
section
variable{w0 w1 wr w':World}{rb:Nat}{sv v v':Value}{s:List Int}{st st':RX.St}
theorem Qb.call(h:Qb w0 rb sv s w1 st wr)(a:Only wr w' rb)(d:QS rb sv w' st'):Qb w0 rb sv s w1 st' w':=⟨h.q.step a d,h.only.trans a⟩
theorem Qb.ex(h:Qb w0 rb sv s w1 st wr)(a:Ext wr w'):Qb w0 rb sv s w1 st w':=h.call (iO a rb) (a.heap h.q.blk)
theorem Qb.bZ(h:Qb w0 rb sv s w1 st wr):Qb w0 rb sv s w1 (st.bump 1) (wr.setCell ⟨rb,1,none⟩ (.int .i64 ((st.at_:Int)+1))):=h.call ((aJ _ rb).set _) h.q.bZ.blk
end
section
variable{w0:World}{rb:Nat}{sv:Value}{s:List Int}
theorem Oq(J:World)(st:RX.St)(he:Qn w0 rb sv s J st)(ha:st.at_<=500):Calls Tryz.prog 142 #[.pointer (some ⟨rb,0,none⟩)] J (QV (.tuple #[.int .i64 (RX.bounds s st).1,.int .i64 (RX.bounds s st).2.1]) rb sv J (RX.nJ s st)):=by
 have kJ:=jd (show Qb w0 rb sv s J st J from⟨he,aJ _ _⟩);obtain⟨m,P⟩:∃x,RX.must s (st.bump 1)=x:=⟨_,rfl⟩;obtain⟨lo,p⟩:=m;obtain⟨m,i⟩:∃x,RX.high s lo p=x:=⟨_,rfl⟩;obtain⟨hi,d⟩:=m;have h2a:p.at_<=st.at_+2:=by have:=(RX.Jf s (st.bump 1)).1;rw[P]at this;exact this
 have hxa:d.at_<=st.at_+4:=by have:=(RX.Qu s lo p).1;rw[i]at this;exact aG this (by omega)
 obtain⟨w,h4⟩:∃x,(if d.ok=true/\RX.aR s d 0≠125 then d.fail 5 d.at_ else d)=x:=⟨_,rfl⟩;have hb:(RX.bounds s st).1=lo/\(RX.bounds s st).2.1=hi:=by unfold RX.bounds;simp only[P,i];exact⟨trivial,trivial⟩
 have Q:RX.nJ s st=if w.ok=true then(if 0<=hi/\hi<lo then(w.bump 1).fail 5 st.at_ else w.bump 1)else w:=by unfold RX.nJ;simp only[P,i,h4]
 obtain⟨F,hz⟩:∃x,(if w.ok=true then(if 0<=hi/\hi<lo then(w.bump 1).fail 5 st.at_ else w.bump 1)else w)=x:=⟨_,rfl⟩;rw[hb.1,hb.2,Q,hz];have U:=jd hz;have HM:=jd P;have HH:=jd i;have V:=jd h4;clear he P i h4 hb Q hz;go_enter Tryz.func142,Tryz.ntmps142;have c1:=kJ.o.q.blk.c1;have f1:=kJ.o.q.blk.fr 1;go_upto_region 3 with fail;have dY:=jd kJ.o.bZ;generalize J.setCell _ _=w2 at dY⊢;clear c1 f1;go_upto_region 5 with(go_at_call 153;refine(EY _ _ dY.o.q (by show st.at_+1<=1000;omega)).mono ?_;rw[HM.o];rintro e w3⟨rfl,z,A⟩;have X:=jd (dY.o.call A z);clear z A);rcases j:p.ok with _|_
 .have B:=jd j;have hxx:hi=lo/\d=p:=by have:=HH.o;unfold RX.high at this;rw[ae (by rw[j];simp)]at this;injection this with a b;exact⟨a.symm,b.symm⟩
  obtain⟨rfl,rfl⟩:=hxx;have C:w=d:=by rw[<-V.o,ae (by rw[j];simp)]
  have r:=jd (show d=F by rw[<-U.o,C,j];rfl);clear j C;go_wp2_with(first|(go_at_call 90;refine(dX _ _ X.o.q).mono ?_;rw[B.o];rintro e w4⟨rfl,f⟩;have R:=jd (X.o.ex f);clear f)|(go_at_call 90;refine(dX _ _ R.o.q).mono ?_;rw[B.o];rintro e w5⟨rfl,f⟩;have K:=jd (R.o.ex f);clear f)|(go_at_call 90;refine(dX _ _ K.o.q).mono ?_;rw[B.o];rintro e w6⟨rfl,f⟩;have H:=jd (K.o.ex f);clear f));go_ret2;exact⟨rfl,r.o▸H.o.q.blk,H.o.only⟩
 have B:=jd j;obtain⟨c2,t⟩:∃x,RX.aR s p 0=x:=⟨_,rfl⟩;have rA:=jd t;go_upto_if 27 with(first|(go_at_call 90;refine(dX _ _ X.o.q).mono ?_;rw[B.o];rintro e w4⟨rfl,f⟩;have R:=jd (X.o.ex f);clear f)|(go_at_call 106;refine(dz _ _ R.o.q).mono ?_;rw[rA.o];rintro e w5⟨rfl,f⟩;have K:=jd (R.o.ex f);clear f));go_cut[6](fun s6 wx=>s6=.int .i64 hi/\Qb w0 rb sv s J d wx);case first=>
  by_cases M:c2=44
  .have b44:(c2==44)=true:=by simpa using M
   obtain⟨c3,L⟩:∃x,RX.aR s (p.bump 1) 0=x:=⟨_,rfl⟩;have NN:=jd L;have i:=HH.o;unfold RX.high at i;rw[av ⟨j,t.trans M⟩,L]at i;have S:=jd i;clear j t M L i;have c1:=K.o.q.blk.c1;have f1:=K.o.q.blk.fr 1;go_upto_region 8 with fail;have H:=jd K.o.bZ;generalize w5.setCell _ _=w6 at H⊢;clear c1 f1;by_cases u:c3=125
   .have Ot:(c3 !=125)=false:=by simpa using u
    have i:=S.o;rw[ae (by simpa using u)]at i;injection i with e1 e2;subst e1 e2;clear u;go_wp2_with(go_at_call 106;refine(dz _ _ H.o.q).mono ?_;rw[NN.o];rintro e w7⟨rfl,f⟩;have Y:=jd (H.o.ex f);clear f);go_meet;exact⟨rfl,Y.o⟩
   .have Ot:(c3 !=125)=true:=by simpa using u
    have i:=S.o;rw[av (by simpa using u)]at i;have HH2:=jd i;clear u i;go_wp2_with(first|(go_at_call 106;refine(dz _ _ H.o.q).mono ?_;rw[NN.o];rintro e w7⟨rfl,f⟩;have Y:=jd (H.o.ex f);clear f)|(go_at_call 153;refine(EY _ _ Y.o.q (by show p.at_+1<=1000;omega)).mono ?_;rw[HH2.o];rintro e w8⟨rfl,z,A⟩;have lv:=jd (Y.o.call A z);clear z A));go_meet;exact⟨rfl,lv.o⟩
  .have b44:(c2==44)=false:=by simpa using M
   have i:=HH.o;unfold RX.high at i;rw[ae (by rw[t];exact fun h=>M h.2)]at i;injection i with e1 e2;subst e1 e2;clear j t M;go_wp2_with fail;go_meet;exact⟨rfl,K.o⟩
 case rest=>
  obtain⟨rfl,T⟩:=hcut;have N:=jd T;clear T j t;rcases k:d.ok with _|_
  .have v:=jd k;have C:w=d:=by rw[<-V.o,ae (by rw[k];simp)]
   have r:=jd (show d=F by rw[<-U.o,C,k];rfl);clear k C;go_wp2_with(first|(go_at_call 90;refine(dX _ _ N.o.q).mono ?_;rw[v.o];rintro e wA⟨rfl,f⟩;have I:=jd (N.o.ex f);clear f)|(go_at_call 90;refine(dX _ _ I.o.q).mono ?_;rw[v.o];rintro e wB⟨rfl,f⟩;have G:=jd (I.o.ex f);clear f));go_ret2;exact⟨rfl,r.o▸G.o.q.blk,G.o.only⟩
  have v:=jd k;obtain⟨cx,D⟩:∃x,RX.aR s d 0=x:=⟨_,rfl⟩;have uw:=jd D;by_cases u:cx=125;rotate_left
  .have Ot:(cx !=125)=true:=by simpa using u
   have C:w=d.fail 5 d.at_:=by rw[<-V.o,av ⟨k,by rw[D];exact u⟩]
   have Q4:=jd (RX.VF d d.at_);have r:=jd (show d.fail 5 d.at_=F by rw[<-U.o,C,Q4.o];rfl);clear k C D u;go_upto_if 46 with(first|(go_at_call 90;refine(dX _ _ N.o.q).mono ?_;rw[v.o];rintro e wA⟨rfl,f⟩;have I:=jd (N.o.ex f);clear f)|(go_at_call 106;refine(dz _ _ I.o.q).mono ?_;rw[uw.o];rintro e wB⟨rfl,f⟩;have G:=jd (I.o.ex f);clear f));have c1:=G.o.q.blk.c1;go_wp2_with(first|(go_at_call 91;refine(iK _ _ 5 (d.at_:Int) G.o.q).mono ?_;rintro e wD⟨rfl,z,A⟩;have O:=jd (G.o.call A z);clear z A)|(go_at_call 90;refine(dX _ _ O.o.q).mono ?_;rw[Q4.o];rintro e wE⟨rfl,f⟩;have E:=jd (O.o.ex f);clear f));go_ret2;exact⟨rfl,r.o▸E.o.q.blk,E.o.only⟩
  have Ot:(cx !=125)=false:=by simpa using u
  have C:w=d:=by rw[<-V.o,ae (by rw[D];exact fun h=>h.2 u)]
  have r:=jd (show(if 0<=hi/\hi<lo then(d.bump 1).fail 5 st.at_ else d.bump 1)=F by rw[<-U.o,C,k];rfl);clear k C D u;go_upto_if 46 with(first|(go_at_call 90;refine(dX _ _ N.o.q).mono ?_;rw[v.o];rintro e wA⟨rfl,f⟩;have I:=jd (N.o.ex f);clear f)|(go_at_call 106;refine(dz _ _ I.o.q).mono ?_;rw[uw.o];rintro e wB⟨rfl,f⟩;have G:=jd (I.o.ex f);clear f));go_upto_region 13 with(go_at_call 90;refine(dX _ _ G.o.q).mono ?_;rw[v.o];rintro e wD⟨rfl,f⟩;have O:=jd (G.o.ex f);clear f);have c1:=O.o.q.blk.c1;have f1:=O.o.q.blk.fr 1;go_upto_region 14 with fail;have E:=jd O.o.bZ;generalize wD.setCell _ _=wE at E⊢;clear c1 f1;by_cases Z:0<=hi
  .have d0:decide (hi>=0)=true:=by simpa using Z
   by_cases h1:hi<lo
   .have d1:decide (lo>hi)=true:=by simpa using h1
    have r:=jd ((av ⟨Z,h1⟩).symm.trans r.o);go_wp2_with(go_at_call 91;refine(iK _ _ 5 (st.at_:Int) E.o.q).mono ?_;rintro e wF⟨rfl,z,A⟩;have fw:=jd (E.o.call A z);clear z A);go_ret2;exact⟨rfl,r.o▸fw.o.q.blk,fw.o.only⟩
   .have d1:decide (lo>hi)=false:=by simpa using h1
    have r:=jd ((ae (fun h=>h1 h.2)).symm.trans r.o);go_wp2_with fail;go_ret2;exact⟨rfl,r.o▸E.o.q.blk,E.o.only⟩
  .have d0:decide (hi>=0)=false:=by simpa using Z
   have r:=jd ((ae (fun h=>Z h.1)).symm.trans r.o);go_wp2_with fail;go_ret2;exact⟨rfl,r.o▸E.o.q.blk,E.o.only⟩
end
namespace RX
def nK(s:List Int)(st:St):St:=let st1:St:={st with op:=st.op-1};(if st1.ok=true/\aR s st1 0≠41 then st1.fail 5 st1.at_ else st1).bump 1
theorem vW{a b:St}{c x:Int}(d:a.code=b.code)(e:a.gL=b.gL):(a.fail c x).code=(b.fail c x).code/\(a.fail c x).gL=(b.fail c x).gL:=by
 unfold St.fail;rw[d];split
 .exact⟨rfl,rfl⟩
 .exact⟨d,e⟩
theorem Bb(x:aA)(l:List aA):under x [l]=x::l.map aA.down:=by simp[under]
end RX
theorem fU.group{s:List Int}{alt:RX.St->List RX.aA×RX.St}{st a:RX.St}{k:Int}{K:Nat}{D:Int}{N:Nat}{l:List RX.aA}{f:RX.St}(h:fU (alt {a with op:=a.op+1}) {a with op:=a.op+1} K D N l f)(u:RX.dP s alt st=RX.dU s alt k a)(v:a.op=st.op)(A:0<=D):fU (RX.dP s alt st) st (K+1) (D+1) (N+1) (RX.node 5 k 0 false false []::l.map RX.aA.down) (RX.nK s f):=by
 have e:RX.dU s alt k a=(RX.node 5 k 0 false false []::(alt {a with op:=a.op+1}).1.map RX.aA.down,RX.nK s (alt {a with op:=a.op+1}).2):=by unfold RX.dU RX.nK;simp only[RX.Bb]
 rw[u,e];have B:f.op=a.op+1:=h.op;generalize alt {a with op:=a.op+1}=r at h;refine⟨by simp;exact h.len,?_,?_,?_,?_,?_⟩
 .intro x m;rcases List.mem_cons.1 m with rfl|m
  .exact⟨tK _,by show(0:Int)<=D+1;omega⟩
  .obtain⟨y,w,rfl⟩:=xu.1 m;have:=h.deep y w;exact⟨by show 0<=y.deep+1;omega,by show y.deep+1<=D+1;omega⟩
 .have:=h.hi;unfold RX.nK;simp only;split
  .show(RX.St.fail _ _ _).at_+1<=N+1;rw[RX.oW];exact Nat.succ_le_succ this
  .exact Nat.succ_le_succ this
 .unfold RX.nK;simp only;split
  .show(RX.St.fail _ _ _).op=st.op;rw[RX.sM];show f.op-1=st.op;omega
  .show f.op-1=st.op;omega
 .intro p;have t:r.2.ok=true:=by
   rcases i:r.2.ok with _|_
   .have:(RX.nK s r.2).ok=false:=by unfold RX.nK;simp only;rw[ae (by rintro⟨j,-⟩;have d:r.2.ok=true:=j;rw[i]at d;cases d)];exact i
    rw[show((RX.node 5 k 0 false false []::r.1.map RX.aA.down,RX.nK s r.2):List RX.aA×RX.St).2=RX.nK s r.2 from rfl,this]at p;cases p
   .rfl
  obtain⟨rfl,rfl⟩:=h.good t;exact⟨rfl,rfl⟩
 .intro p;rcases i:r.2.ok with _|_
  .obtain⟨j,d⟩:=h.bad i;have z:f.ok=false:=by rw[h.ok];exact i
   unfold RX.nK;simp only;rw[ae (by rintro⟨j,-⟩;have d:f.ok=true:=j;rw[z]at d;cases d),ae (by rintro⟨j,-⟩;have d:r.2.ok=true:=j;rw[i]at d;cases d)];exact⟨j,d⟩
  .obtain⟨-,rfl⟩:=h.good i;exact⟨rfl,rfl⟩
theorem fU.fault{R:List RX.aA×RX.St}{st a:RX.St}{K:Nat}{D:Int}{n:Nat}(d:a.op=st.op)(e:a.at_<=n)(f:R.2.ok=false)(i:a.code=R.2.code)(j:a.gL=R.2.gL):fU R st K D n [] a:=⟨aL _,by simp,e,d,(fun h=>by rw[f]at h;cases h),fun _=>⟨i,j⟩⟩
def Ou(w0:World)(rb:Nat)(sv:Value)(s:List Int)(n:Nat)(alt:RX.St->List RX.aA×RX.St)(K:Nat)(D:Int)(N:Nat):Prop:=∀(w:World)(st:RX.St),Qn w0 rb sv s w st->st.ok=true->st.at_<=s.length->st.aC<=9->st.op+n=12->Calls Tryz.prog 89 #[.pointer (some ⟨rb,0,none⟩)] w (QP rb sv w (alt st) st K D N)
def nU(gb:Nat)(k lo hi:Int)(lz:Bool)(w:World):Prop:=w.heap[gb]?=some (.cells #[.int .i64 k,.int .i64 0,.int .i64 lo,.int .i64 hi,.bool lz,.bool false,.slice none 0 0] 126 (0,0))
structure Qg(w0:World)(rb:Nat)(sv:Value)(s:List Int)(w1:World)(gb:Nat)(k lo hi:Int)(lz:Bool)(st:RX.St)(v:Value)(l:List RX.aA)(wr:World):Prop where
 b:Qb w0 rb sv s w1 st wr
 g:nU gb k lo hi lz wr
 new:w1.heap.size<=gb
 lt:rb<w1.heap.size
 val:dI w1.heap.size w1.heap.size wr v l
theorem Lt{a w:World}{p nb o:Nat}{u:Value}(e:a.heap.size<=nb)(h:Only a w p):Only a (w.setCell ⟨nb,o,none⟩ u) p:=⟨h.os,h.tape,h.output,by simpa using h.size,fun i hi d=>(Below.heap_setCell w ⟨nb,o,none⟩ u i (by rintro rfl;exact Nat.lt_irrefl _ (mJ hi e))).trans (h.block i hi d)⟩
section
variable{w0 w1 wr w':World}{rb gb:Nat}{sv v v':Value}{s:List Int}{st st':RX.St}{k lo hi lo' hi':Int}{lz:Bool}{l l':List RX.aA}
theorem nU.c(h:nU gb k lo hi lz wr)(o:Nat)(u:Value)(a:(#[.int .i64 k,.int .i64 0,.int .i64 lo,.int .i64 hi,.bool lz,.bool false,.slice none 0 0]:Array Value)[o]?=some u):wr.cell? ⟨gb,o,none⟩=some u:=by unfold nU at h;simp only[World.cell?,h];exact a
theorem nU.fr(h:nU gb k lo hi lz wr)(o:Nat):wr.frozen? ⟨gb,o,none⟩=false:=fq o h
theorem nU.lo_(h:nU gb k lo hi lz wr):nU gb k lo' hi lz (wr.setCell ⟨gb,2,none⟩ (.int .i64 lo')):=aP h
theorem nU.hi_(h:nU gb k lo hi lz wr):nU gb k lo hi' lz (wr.setCell ⟨gb,3,none⟩ (.int .i64 hi')):=aP h
theorem nU.lz_(h:nU gb k lo hi lz wr):nU gb k lo hi true (wr.setCell ⟨gb,4,none⟩ (.bool true)):=aP h
theorem Qg.call(h:Qg w0 rb sv s w1 gb k lo hi lz st v l wr)(a:Only wr w' rb)(d:QS rb sv w' st'):Qg w0 rb sv s w1 gb k lo hi lz st' v l w':=⟨h.b.call a d,(a.block gb (ag h.g) (by intro e;injection e with e;have:=h.new;have:=h.lt;omega)).trans h.g,h.new,h.lt,h.val.dW (jQ _) (kD a h.lt)⟩
theorem Qg.ex(h:Qg w0 rb sv s w1 gb k lo hi lz st v l wr)(a:Ext wr w'):Qg w0 rb sv s w1 gb k lo hi lz st v l w':=h.call (iO a rb) (a.heap h.b.q.blk)
theorem Qg.bZ(h:Qg w0 rb sv s w1 gb k lo hi lz st v l wr):Qg w0 rb sv s w1 gb k lo hi lz (st.bump 1) v l (wr.setCell ⟨rb,1,none⟩ (.int .i64 ((st.at_:Int)+1))):=h.call ((aJ _ rb).set _) h.b.q.bZ.blk
theorem Qg.Eg(h:Qg w0 rb sv s w1 gb k lo hi lz st v l wr):Qg w0 rb sv s w1 gb k lo hi lz {st with aC:=st.aC+1} v l (wr.setCell ⟨rb,2,none⟩ (.int .i64 ((st.aC:Int)+1))):=h.call ((aJ _ rb).set _) (h.b.q.Dc (st.aC+1)).blk
theorem Qg.Nh(h:Qg w0 rb sv s w1 gb k lo hi lz st v l wr):Qg w0 rb sv s w1 gb k lo hi lz {st with op:=st.op+1} v l (wr.setCell ⟨rb,3,none⟩ (.int .i64 ((st.op:Int)+1))):=h.call ((aJ _ rb).set _) (h.b.q.BG (st.op+1)).blk
theorem Qg.Ni(h:Qg w0 rb sv s w1 gb k lo hi lz st v l wr)(a:1<=st.op):Qg w0 rb sv s w1 gb k lo hi lz {st with op:=st.op-1} v l (wr.setCell ⟨rb,3,none⟩ (.int .i64 ((st.op:Int)-1))):=by
 have e:((st.op:Int)-1)=((st.op-1:Nat):Int):=by omega
 rw[e];exact h.call ((aJ _ rb).set _) (h.b.q.BG (st.op-1)).blk
theorem Qg.set(h:Qg w0 rb sv s w1 gb k lo hi lz st (.slice none 0 0) [] wr){o:Nat}{u:Value}{e lo' hi':Int}{a:Bool}(f:nU gb e lo' hi' a (wr.setCell ⟨gb,o,none⟩ u)):Qg w0 rb sv s w1 gb e lo' hi' a st (.slice none 0 0) [] (wr.setCell ⟨gb,o,none⟩ u):=by have d:rb<gb:=mJ h.lt h.new;have i:QS rb sv (wr.setCell ⟨gb,o,none⟩ u) st:=(Below.heap_setCell wr ⟨gb,o,none⟩ u rb (by rintro rfl;exact Nat.lt_irrefl _ d)).trans h.b.q.blk;have j:Ext w0 (wr.setCell ⟨gb,o,none⟩ u):=Ext.only h.b.q.ext ((aJ wr gb).set u) (by have:=h.b.q.lo;omega);exact⟨⟨⟨h.b.q.sl,h.b.q.lo,h.b.q.len,h.b.q.pos,j,i⟩,Lt h.new h.b.only⟩,f,h.new,h.lt,aS⟩
theorem Qg.JS(h:Qg w0 rb sv s w1 gb k lo hi lz st v l wr)(a:dI w1.heap.size w1.heap.size wr v' l'):Qg w0 rb sv s w1 gb k lo hi lz st v' l' wr:=⟨h.b,h.g,h.new,h.lt,a⟩
theorem Qg.start{a:World}(h:Qb w0 rb sv s w1 st a)(d:rb<w1.heap.size):Qg w0 rb sv s w1 a.heap.size k 0 0 false st (.slice none 0 0) [] (a.alloc (.cells #[.int .i64 k,.int .i64 0,.int .i64 0,.int .i64 0,.bool false,.bool false,.slice none 0 0] 126)):=⟨h.ex ((aa _).alloc _),aB _ _,h.only.size,d,aS⟩
theorem ik{B:Nat}(w:World)(x:RX.aA)(cs:List Value)(more:List RX.aA)(d:Value)(i:CR B w cs x)(f:dI B B w d more)(j:B<=w.heap.size)(F:more.length<=90000)(m:∀y∈more,0<=y.deep/\y.deep<=1000):Calls Tryz.prog 107 #[.slice (some ⟨w.heap.size,0,none⟩) 1 1,d] (w.alloc (.cells cs.toArray 126)) (fun e w'=>∃v',e=.returned v'/\uO B B w' v' (x::more.map RX.aA.down)/\Ext w w'):=by
 have a:Ext w (w.alloc (.cells cs.toArray 126)):=(aa w).alloc _;refine(x8 B B B [x] more _ d _ (Dl rfl j i) (f.keep (dE B) (au a) (au a)) (by simp) ?_ (by simp;omega) (by simp;omega) m).mono ?_
 .intro g o n c p r;obtain⟨A,G,e,-,-,-,t⟩:=f;rw[p]at e;injection e with u _ _;obtain⟨_,_,_,h,-,z,-⟩:=t _ u.symm;injection h with h _ _;have:=ag z;simp[Value.ownBlock]at r;omega
 .rintro e w'⟨v',rfl,C,D⟩;exact⟨v',rfl,C,a.grown D (by intro k E;simp[Value.ownBlock]at E;omega)⟩
end
section
variable{w0:World}{rb:Nat}{sv:Value}{s:List Int}
theorem Ov(n:Nat)(alt:RX.St->List RX.aA×RX.St){K:Nat}{D:Int}{N:Nat}(HA:∀m,n=m+1->Ou w0 rb sv s m alt K D N)(hK:K<=10000)(hD:0<=D/\D<=100)(hN:s.length+4<=N/\N<=1000)(H:World)(st:RX.St)(Q:Qn w0 rb sv s H st)(hok:st.ok=true)(ha:st.at_<s.length)(h9:st.aC<=9)(hop:st.op+n=12):Calls Tryz.prog 150 #[.pointer (some ⟨rb,0,none⟩)] H (QP rb sv H (RX.dP s alt st) st (K+1) (D+1) (N+1)):=by
 have oF:=Q.len;have kJ:=jd (show Qb w0 rb sv s H st H from⟨Q,aJ _ _⟩);have hrb:=Q.jk;have kM:=jd hok;have Dm:=jd hop;obtain⟨R,hR⟩:∃x,RX.dP s alt st=x:=⟨_,rfl⟩;have HR:=jd hR;obtain⟨A,S⟩:∃x,RX.aR s (st.bump 1) 0=x:=⟨_,rfl⟩;obtain⟨j,T⟩:∃x,RX.aR s (st.bump 2) 0=x:=⟨_,rfl⟩;have eB:=jd S;have rA:=jd (show RX.aR s ((st.bump 1).bump 1) 0=j from T);have hgp:RX.dP s alt st=if 12<=st.op then([],st.fail 6 st.at_)else if A=63/\j=58 then RX.dU s alt 0 (st.bump 3)else if A=63 then([],st.fail 5 (st.at_+2))else if 9<=st.aC then([],st.fail 3 st.at_)else RX.dU s alt (st.aC+1) {st.bump 1 with aC:=st.aC+1}:=by rw[<-S,<-T];rfl
 have HGP:=jd (hR.symm.trans hgp);rw[hR];clear Q hok hR S T hgp;go_enter Tryz.func150,Tryz.ntmps150;have c1:=kJ.o.q.blk.c1;have f1:=kJ.o.q.blk.fr 1;go_upto_region 3 with fail;have dY:=jd kJ.o.bZ;generalize H.setCell _ _=w2 at dY⊢;clear c1 f1;go_upto_region 4 with fail;have C:=jd (Qg.start (k:=5) dY.o hrb);have aei:H.heap.size<=w2.heap.size:=dY.o.only.size;generalize w2.heap.size=gb at C aei⊢;generalize w2.alloc _=w3 at C⊢;have c3:=C.o.b.q.blk.c3;by_cases I:12<=st.op
 .have d12:decide ((12:Int)<=((st.bump 1).op:Int))=true:=by show decide ((12:Int)<=(st.op:Int))=true;simp;omega
  have u:=HGP.o;rw[av I]at u;subst u;clear I;go_upto_if 22 with fail;go_wp2_with(go_at_call 91;refine(iK _ _ 6 (st.at_:Int) C.o.b.q).mono ?_;rintro e w4⟨rfl,r,t⟩;have f:=jd (C.o.call t r);clear r t);go_ret;exact⟨[],_,_,rfl,aS,f.o.b.q.blk,f.o.b.only,fU.fault (by rw[RX.sM];rfl) (by rw[RX.oW];show st.at_+1<=N+1;omega) (RX.St.aW _ (by decide)) (RX.vW (a:=st.bump 1) (b:=st) rfl rfl).1 (RX.vW (a:=st.bump 1) (b:=st) rfl rfl).2⟩
 have d12:decide ((12:Int)<=((st.bump 1).op:Int))=false:=by show decide ((12:Int)<=(st.op:Int))=false;simp;omega
 obtain⟨m,rfl⟩:∃m,n=m+1:=⟨n-1,by omega⟩;have HAX:=jd (HA m rfl);have hb1:(st.bump 1).at_<=100:=by show st.at_+1<=100;omega
 have hb2:((st.bump 1).bump 1).at_<=100:=by show st.at_+2<=100;omega
 have hb3:(st.bump 1).aC<=9:=h9;have u:=HGP.o;rw[ae I]at u;go_upto_if 22 with fail;clear c3 hop;by_cases L:A=63/\j≠58
 .have U:(A==63)=true:=by simpa using L.1
  have b58:(j !=58)=true:=by simpa using L.2
  rw[ae (fun h=>L.2 h.2),av L.1]at u;subst u;clear L;go_upto_region 8 with(go_at_call 106;refine(dz _ _ C.o.b.q).mono ?_;rw[eB.o];rintro e w4⟨rfl,d⟩;have f:=jd (C.o.ex d);clear d);have c1:=f.o.b.q.blk.c1;have f1:=f.o.b.q.blk.fr 1;go_upto_region 9 with fail;have i:=jd f.o.bZ;generalize w4.setCell _ _=w5 at i⊢;clear c1 f1;go_upto_region 10 with(go_at_call 106;refine(dz _ _ i.o.b.q).mono ?_;rw[rA.o];rintro e w6⟨rfl,d⟩;have V:=jd (i.o.ex d);clear d);have c1:=V.o.b.q.blk.c1;go_wp2_with(go_at_call 91;refine(iK _ _ 5 (((st.bump 1).bump 1).at_:Int) V.o.b.q).mono ?_;rintro e w7⟨rfl,r,t⟩;have gB:=jd (V.o.call t r);clear r t);go_ret;have hcb:=RX.vW (a:=(st.bump 1).bump 1) (b:=st) (c:=5) (x:=(st.at_+2:Nat)) rfl rfl;exact⟨[],_,_,rfl,aS,gB.o.b.q.blk,gB.o.b.only,fU.fault (by rw[RX.sM];rfl) (by rw[RX.oW];show st.at_+2<=N+1;omega) (RX.St.aW _ (by decide)) hcb.1 hcb.2⟩
 by_cases M:A≠63/\9<=st.aC
 .have U:(A==63)=false:=by simpa using M.1
  have d9:decide ((9:Int)<=((st.bump 1).aC:Int))=true:=by have:=M.2;show decide ((9:Int)<=(st.aC:Int))=true;simp;omega
  rw[ae (fun h=>M.1 h.1),ae M.1,av M.2]at u;subst u;clear M L;go_upto_region 13 with(go_at_call 106;refine(dz _ _ C.o.b.q).mono ?_;rw[eB.o];rintro e w4⟨rfl,d⟩;have f:=jd (C.o.ex d);clear d);have c2:=f.o.b.q.blk.c2;go_upto_if 56 with fail;go_wp2_with(go_at_call 91;refine(iK _ _ 3 (st.at_:Int) f.o.b.q).mono ?_;rintro e w5⟨rfl,r,t⟩;have i:=jd (f.o.call t r);clear r t);go_ret;exact⟨[],_,_,rfl,aS,i.o.b.q.blk,i.o.b.only,fU.fault (by rw[RX.sM];rfl) (by rw[RX.oW];show st.at_+1<=N+1;omega) (RX.St.aW _ (by decide)) (RX.vW (a:=st.bump 1) (b:=st) rfl rfl).1 (RX.vW (a:=st.bump 1) (b:=st) rfl rfl).2⟩
 obtain⟨lo,v,hg,hw⟩:∃(lo:Int)(v:RX.St),R=RX.dU s alt lo v/\((A=63/\j=58/\lo=0/\v=((st.bump 1).bump 1).bump 1)\/(A≠63/\st.aC<9/\lo=((st.aC+1:Nat):Int)/\v={st.bump 1 with aC:=st.aC+1})):=by
  by_cases p:A=63
  .have xZ:j=58:=Classical.byContradiction fun h=>L ⟨p,h⟩;rw[av ⟨p,xZ⟩]at u;exact⟨_,_,u,.inl ⟨p,xZ,rfl,rfl⟩⟩
  .have h9':¬9<=st.aC:=fun h=>M ⟨p,h⟩;rw[ae (fun h=>p h.1),ae p,ae h9']at u;exact⟨_,_,u.trans (by push_cast;rfl),.inr ⟨p,by omega,rfl,rfl⟩⟩
 have VJ:v.at_<=s.length/\v.aC<=9/\v.op=st.op/\v.ok=true:=by
  rcases hw with⟨-,X,-,rfl⟩|⟨-,X,-,rfl⟩
  .have:=RX.dN (s:=s) (k:=0) (st:=(st.bump 1).bump 1) (by rw[rA.o,X];decide);exact⟨this,h9,rfl,kM.o⟩
  .exact⟨ha,X,rfl,kM.o⟩
 have HW:=jd hw;have HG:=jd (HR.o.trans hg);have Y:=jd VJ;have hga:v.at_<=s.length:=VJ.1;have hgc:v.aC<=9:=VJ.2.1;have hgo:v.op<=11:=by rw[VJ.2.2.1];omega
 clear u hw L M hg VJ I d12;go_upto_if 28 with(go_at_call 106;refine(dz _ _ C.o.b.q).mono ?_;rw[eB.o];rintro e w4⟨rfl,d⟩;have f:=jd (C.o.ex d);clear d);go_cut[](fun wx=>Qg w0 rb sv s H gb 5 lo 0 false v (.slice none 0 0) [] wx);case first=>
  rcases HW.o with⟨h1,X,rfl,rfl⟩|⟨h1,X,rfl,rfl⟩
  .have U:(A==63)=true:=by simpa using h1
   have b58:(j !=58)=false:=by simpa using X
   clear h1 X;have c1:=f.o.b.q.blk.c1;have f1:=f.o.b.q.blk.fr 1;go_upto_region 9 with fail;have i:=jd f.o.bZ;generalize w4.setCell _ _=w5 at i⊢;clear c1 f1;go_upto_region 12 with(go_at_call 106;refine(dz _ _ i.o.b.q).mono ?_;rw[rA.o];rintro e w6⟨rfl,d⟩;have V:=jd (i.o.ex d);clear d);have c1:=V.o.b.q.blk.c1;have f1:=V.o.b.q.blk.fr 1;go_wp2_with fail;go_meet;exact V.o.bZ
  .have U:(A==63)=false:=by simpa using h1
   have d9:decide ((9:Int)<=((st.bump 1).aC:Int))=false:=by show decide ((9:Int)<=(st.aC:Int))=false;simp;omega
   clear h1;have c2:=f.o.b.q.blk.c2;have f2:=f.o.b.q.blk.fr 2;go_upto_region 17 with fail;have i:=jd f.o.Eg;generalize w4.setCell _ _=w5 at i⊢;clear c2 f2;have c2:=i.o.b.q.blk.c2;have fg:=i.o.g.fr 2;have cg:=i.o.g.c 2 _ rfl;go_wp2_with fail;go_meet;exact i.o.set i.o.g.lo_
 case rest=>
  have ow:=jd hcut;generalize wc=w9 at ow⊢;clear hcut;have c3:=ow.o.b.q.blk.c3;have f3:=ow.o.b.q.blk.fr 3;go_upto_region 19 with fail;have zA:=jd ow.o.Nh;generalize w9.setCell _ _=wA at zA⊢;clear c3 f3;go_upto_region 20 with(go_at_call 89;refine(HAX.o _ _ zA.o.b.q Y.o.2.2.2 hga hgc (by have:=Y.o.2.2.1;have:=Dm.o;show v.op+1+m=12;omega)).mono ?_;rintro e wB⟨l5,v5,Gb,rfl,hv,r,t,O⟩;have Sd:=jd ((zA.o.call t r).JS (jV hv zA.o.b.only.size));have iM:=jd O;obtain⟨Av,cv,rfl,-⟩:=hv.form;clear hv r t O);have h5p:1<=Gb.op:=by have:=iM.o.op;rw[this];exact Nat.succ_le_succ (aL _)
  have h5q:Gb.op<=12:=by have:=iM.o.op;rw[this];exact Nat.succ_le_succ hgo
  have h5a:Gb.at_<=N:=iM.o.hi;have c3:=Sd.o.b.q.blk.c3;have f3:=Sd.o.b.q.blk.fr 3;go_upto_region 21 with fail;have P:=jd (Sd.o.Ni h5p);generalize wB.setCell _ _=wD at P⊢;clear c3 f3;obtain⟨w,h6⟩:∃x:RX.St,{Gb with op:=Gb.op-1}=x:=⟨_,rfl⟩;have h6a:w.at_<=N:=by rw[<-h6];exact h5a
  rw[h6]at P;have HQ:=jd (iM.o.group HG.o Y.o.2.2.1 hD.1);have Q:RX.nK s Gb=(if w.ok=true/\RX.aR s w 0≠41 then w.fail 5 w.at_ else w).bump 1:=by unfold RX.nK;rw[h6]
  rw[Q,HR.o]at HQ;clear Q h6 h5p h5q;rcases Z:w.ok with _|_;focus
   have J:=jd Z;rw[ae (by rw[Z];simp)]at HQ;clear Z;go_upto_region 23 with(go_at_call 90;refine(dX _ _ P.o.b.q).mono ?_;rw[J.o];rintro e wE⟨rfl,d⟩;have xw:=jd (P.o.ex d);clear d)
  rotate_left;focus
   have J:=jd Z;obtain⟨c4_,E⟩:∃x,RX.aR s w 0=x:=⟨_,rfl⟩;have HN4:=jd E;by_cases z:c4_=41;focus
    have b41:(c4_ !=41)=false:=by simpa using z
    rw[ae (by rw[E];exact fun h=>h.2 z)]at HQ;clear Z E z;go_upto_region 23 with(first|(go_at_call 90;refine(dX _ _ P.o.b.q).mono ?_;rw[J.o];rintro e wI⟨rfl,d⟩;have F:=jd (P.o.ex d);clear d)|(go_at_call 106;refine(dz _ _ F.o.b.q).mono ?_;rw[HN4.o];rintro e wE⟨rfl,d⟩;have xw:=jd (F.o.ex d);clear d))
   rotate_left;focus
    have b41:(c4_ !=41)=true:=by simpa using z
    rw[av ⟨Z,by rw[E];exact z⟩]at HQ;clear Z E z;go_upto_region 22 with(first|(go_at_call 90;refine(dX _ _ P.o.b.q).mono ?_;rw[J.o];rintro e wI⟨rfl,d⟩;have F:=jd (P.o.ex d);clear d)|(go_at_call 106;refine(dz _ _ F.o.b.q).mono ?_;rw[HN4.o];rintro e wJ⟨rfl,d⟩;have HCJ:=jd (F.o.ex d);clear d));have c1:=HCJ.o.b.q.blk.c1;go_upto_region 23 with(go_at_call 91;refine(iK _ _ 5 (w.at_:Int) HCJ.o.b.q).mono ?_;rintro e wE⟨rfl,r,t⟩;have xw:=jd (HCJ.o.call t r);clear r t);clear c1;have h7a:(w.fail 5 (w.at_:Int)).at_<=1000:=by rw[RX.oW];omega
    generalize w.fail 5 (w.at_:Int)=st7 at xw HQ h7a
   rotate_left
  all_goals
   have c1:=xw.o.b.q.blk.c1;have f1:=xw.o.b.q.blk.fr 1;go_upto_region 24 with fail;have G:=jd xw.o.bZ;generalize wE.setCell _ _=wF at G⊢;clear c1 f1;have g0:=G.o.g.c 0 _ rfl;have g1:=G.o.g.c 1 _ rfl;have g2:=G.o.g.c 2 _ rfl;have g3:=G.o.g.c 3 _ rfl;have g4:=G.o.g.c 4 _ rfl;have g5:=G.o.g.c 5 _ rfl;have g6:=G.o.g.c 6 _ rfl;have hbz:=G.o.b.only.size;go_wp2_with(go_at_call 107;refine(ik (B:=H.heap.size) _ (RX.node 5 lo 0 false false []) _ l5 _ CR.FW G.o.val hbz (by have:=iM.o.len;omega) (fun y hy=>by have:=iM.o.deep y hy;omega)).mono ?_;rintro e wz⟨vz,rfl,nT,hxz⟩;have Ca:=jd nT.sl;have ug:=jd (G.o.ex hxz);clear nT hxz);go_ret;exact⟨_,_,_,rfl,Ca.o,ug.o.b.q.blk,ug.o.b.only,HQ.o⟩
end
namespace RX
def mZ(s:List Int)(alt:St->List aA×St)(st:St):List aA×St:=if aR s st 0=94 then([node 3 0 0 false false []],st.bump 1)
 else if aR s st 0=36 then([node 4 0 0 false false []],st.bump 1)
 else di s alt st
theorem Si{c:Int}{l:List Int}(h:dA c=some l):l≠[]:=by
 unfold dA at h;split at h
 .injection h with h;rw[<-h];simp
 split at h
 .injection h with h;rw[<-h];simp
 split at h
 .injection h with h;rw[<-h];simp
 .cases h
theorem uS{s:List Int}{st:St}{d:Int}(a:aR s (st.bump 1) 0=d):bL s st=if(eQ d).2=true/\(eQ d).1=[]then([],(st.bump 1).fail 5 (st.bump 1).at_)else([node 2 0 0 false (eQ d).2 (eQ d).1],st.bump 2):=by
 unfold bL eQ;simp only[a];rcases f:dA d with _|l
 .simp only;rcases e:dA (lower d)with _|l
  .simp only;rcases h:eF d with _|x
   .simp
   .simp;rfl
  .have:=Si e;simp[this];rfl
 .simp;rfl
end RX
theorem fU.one{x:RX.aA}{st a:RX.St}{K:Nat}{D:Int}{n:Nat}(h:x.deep=0)(d:a.op=st.op)(e:a.at_<=n)(i:0<=D):fU ([x],a) st (K+1) D n [x] a:=⟨by simp,fun y f=>by simp at f;subst f;rw[h];exact⟨tK _,i⟩,e,d,fun _=>⟨rfl,rfl⟩,fun _=>⟨rfl,rfl⟩⟩
theorem fU.Qv{R:List RX.aA×RX.St}{x:RX.aA}{st a:RX.St}{K:Nat}{D:Int}{n:Nat}(i:x.deep=0)(d:a.op=st.op)(e:a.at_<=n)(j:0<=D)(k:R.2.ok=false)(m:a.code=R.2.code)(p:a.gL=R.2.gL):fU R st (K+1) D n [x] a:=⟨by simp,fun y f=>by simp at f;subst f;rw[i];exact⟨tK _,j⟩,e,d,(fun h=>by rw[k]at h;cases h),fun _=>⟨m,p⟩⟩
theorem fU.mono{R:List RX.aA×RX.St}{st a:RX.St}{K d:Nat}{D e:Int}{N f:Nat}{l:List RX.aA}(h:fU R st K D N l a)(j:K<=d)(k:D<=e)(m:N<=f):fU R st d e f l a:=⟨aG h.len j,fun x i=>⟨(h.deep x i).1,Int.le_trans (h.deep x i).2 k⟩,aG h.hi m,h.op,h.good,h.bad⟩
section
variable{w0:World}{rb:Nat}{sv:Value}{s:List Int}
theorem Sj(n:Nat)(alt:RX.St->List RX.aA×RX.St){K:Nat}{D:Int}{N:Nat}(HA:∀m,n=m+1->Ou w0 rb sv s m alt K D N)(hK:K<=10000)(hD:0<=D/\D<=100)(hN:s.length+4<=N/\N<=1000)(I:World)(st:RX.St)(he:Qn w0 rb sv s I st)(P:st.ok=true)(ha:st.at_<s.length)(h9:st.aC<=9)(hop:st.op+n=12):Calls Tryz.prog 141 #[.pointer (some ⟨rb,0,none⟩)] I (QP rb sv I (RX.mZ s alt st) st (K+1) (D+1) (N+1)):=by
 have oF:=he.len;have kJ:=jd (show Qb w0 rb sv s I st I from⟨he,aJ _ _⟩);have hrb:=he.jk;have kM:=jd P;have HGR:=jd (fun w h=>Ov n alt HA hK hD hN w st h P ha h9 hop);have CV:=jd (fun w h=>Oj (w0:=w0) (rb:=rb) (sv:=sv) (s:=s) w st h P ha h9);have Dk:=jd (fun w h=>uP (w0:=w0) (rb:=rb) (sv:=sv) (s:=s) w st h (by omega));obtain⟨c,hc⟩:∃x,RX.aR s st 0=x:=⟨_,rfl⟩;have HN:=jd hc;obtain⟨R,hR⟩:∃x,RX.mZ s alt st=x:=⟨_,rfl⟩;have f:R=if c=94 then([RX.node 3 0 0 false false []],st.bump 1)else if c=36 then([RX.node 4 0 0 false false []],st.bump 1)
  else if c=42\/c=43\/c=63\/c=123 then([],st.fail 5 st.at_)else if c=40 then RX.dP s alt st else if c=91 then RX.gZ s (st.bump 1)else if c=92 then RX.bL s st
  else if c=46 then([RX.node 2 0 0 false true [10,10]],st.bump 1)else([RX.node 2 0 0 false false [c,c]],st.bump 1):=by rw[<-hR,<-hc];rfl
 rw[hR];have c1:=he.blk.c1;have hb1:(st.bump 1).at_<=100:=by show st.at_+1<=100;omega
 have Q:st.at_+1<=N+1:=by omega
 clear he P hc hR HA hop;go_enter Tryz.func141,Tryz.ntmps141;go_wp2_with fail;go_region_held3(fun w'=>w'.cell? ⟨rb,1,none⟩=some (.int .i64 (st.at_:Int)))(first|go_keep|assumption)
  (first|(go_at_call 106;(refine(dz _ st (kJ.o.ex (by first|exact(aa _).drewN _|exact aa _|exact(aa _).drew)).q).mono ?_);rw[HN.o];rintro e w2⟨rfl,G⟩;have hx2:=jv (show Ext I _ from(by first|exact(aa _).drewN _|exact aa _|exact(aa _).drew)) G;have p:=jd (kJ.o.ex hx2);have c1:=p.o.q.blk.c1;clear G hx2));clear c1;by_cases t:c=94;focus
  rw[av t]at f;subst f;have Zx:(c==94)=true:=by simpa using t
  clear t;have c1:=p.o.q.blk.c1;have f1:=p.o.q.blk.fr 1;go_upto_region 4 with fail
 rotate_left;focus
  by_cases A:c=36;focus
   rw[ae t,av A]at f;subst f;have Zx:(c==94)=false:=by simpa using t
   have J:(c==36)=true:=by simpa using A
   clear t A;have c1:=p.o.q.blk.c1;have f1:=p.o.q.blk.fr 1;go_upto_region 7 with fail
  rotate_left;focus
   by_cases k:c=46
   .rw[ae t,ae A,ae (by omega),ae (by omega),ae (by omega),ae (by omega),av k]at f;subst f;have Zx:(c==94)=false:=by simpa using t
    have J:(c==36)=false:=by simpa using A
    have S:(c==46)=true:=by simpa using k
    clear t A k;have c1:=p.o.q.blk.c1;have f1:=p.o.q.blk.fr 1;go_upto_region 10 with fail;have j:=jd p.o.bZ;generalize w2.setCell _ _=L at j⊢;clear c1 f1;go_wp2_with(go_at_call 149;refine(mY I.heap.size true _ _ _ (BD L [10,10] _ _ rfl rfl j.o.only.size (by simp)) (by have:=j.o.only.size;simp;omega)).mono ?_;rintro e wz⟨vz,rfl,C,i⟩;have M:=jd C;have E:=jd (j.o.ex (((aa L).alloc _).trans i));clear C i);go_ret;exact⟨_,_,_,rfl,M.o,E.o.q.blk,E.o.only,fU.one rfl rfl Q (show(0:Int)<=D+1 by omega)⟩
   by_cases H:c=40
   .rw[ae t,ae A,ae (by omega),av H]at f;subst f;have Zx:(c==94)=false:=by simpa using t
    have J:(c==36)=false:=by simpa using A
    have S:(c==46)=false:=by simpa using k
    have V:(c==40)=true:=by simpa using H
    clear t A k H;go_wp2_with(go_at_call 150;refine(HGR.o _ p.o.q).mono ?_;rintro e L⟨l5,v5,Gb,rfl,u,B,z,F⟩;have j:=jd (p.o.call z B);have HV:=jd (jV u p.o.only.size);have HO:=jd F;obtain⟨Av,cv,rfl,-⟩:=u.form;clear u B z F);go_ret;exact⟨_,_,_,rfl,HV.o,j.o.q.blk,j.o.only,HO.o⟩
   by_cases O:c=91
   .rw[ae t,ae A,ae (by omega),ae H,av O]at f;subst f;have Zx:(c==94)=false:=by simpa using t
    have J:(c==36)=false:=by simpa using A
    have S:(c==46)=false:=by simpa using k
    have V:(c==40)=false:=by simpa using H
    have b91:(c==91)=true:=by simpa using O
    clear t A k H O;go_wp2_with(go_at_call 151;refine(CV.o _ p.o.q).mono ?_;rintro e L⟨l5,v5,Gb,rfl,u,B,z,F⟩;have j:=jd (p.o.call z B);have HV:=jd (jV u p.o.only.size);have HO:=jd F;obtain⟨Av,cv,rfl,-⟩:=u.form;clear u B z F);go_ret;exact⟨_,_,_,rfl,HV.o,j.o.q.blk,j.o.only,HO.o.mono (by omega) (by omega) (by omega)⟩
   by_cases X:c=92
   .rw[ae t,ae A,ae (by omega),ae H,ae O,av X]at f;obtain⟨d,hd⟩:∃x,RX.aR s (st.bump 1) 0=x:=⟨_,rfl⟩;rw[RX.uS hd]at f;rw[hd]at Dk;obtain⟨bm,Y⟩:∃x,RX.eQ d=x:=⟨_,rfl⟩;rw[Y]at f;have T:=jd Y;obtain⟨l,b⟩:=bm;have Zx:(c==94)=false:=by simpa using t
    have J:(c==36)=false:=by simpa using A
    have S:(c==46)=false:=by simpa using k
    have V:(c==40)=false:=by simpa using H
    have b91:(c==91)=false:=by simpa using O
    have WV:(c==92)=true:=by simpa using X
    clear t A k H O X Y hd;have Z:st.at_+2<=N+1:=by omega
    rcases b with _|_
    .rw[ae (fun h=>by cases h.1)]at f;subst f;go_wp2_with(first|(go_at_call 152;refine(Dk.o _ p.o.q).mono ?_;rintro e L⟨v,rfl,u,B,z⟩;rw[T.o]at u⊢;have j:=jd (p.o.call z B);have lF:=jd (jq u p.o.only.size);obtain⟨Av,cv,rfl,-⟩:=u.form;clear u B z)|(go_at_call 149;refine(mY I.heap.size false _ _ _ lF.o j.o.only.size).mono ?_;rintro e wz⟨vz,rfl,C,i⟩;have M:=jd C;have E:=jd (j.o.ex i);clear C i));go_ret;exact⟨_,_,_,rfl,M.o,E.o.q.blk,E.o.only,fU.one rfl rfl Z (show(0:Int)<=D+1 by omega)⟩
    rcases l with _|⟨x,r⟩
    .rw[av ⟨rfl,rfl⟩]at f;subst f;go_wp2_with(first|(go_at_call 152;refine(Dk.o _ p.o.q).mono ?_;rintro e L⟨v,rfl,u,B,z⟩;rw[T.o]at u⊢;have j:=jd (p.o.call z B);have lF:=jd (jq u p.o.only.size);obtain⟨Av,cv,rfl,-⟩:=u.form;clear u B z)|(go_at_call 91;refine(iK _ _ 5 ((st.at_:Int)+1) j.o.q).mono ?_;rintro e w4⟨rfl,B,z⟩;have bS:=jd (j.o.call z B);have Y8:=jd (lF.o.dW (jh _) (kD z hrb));clear B z)|(go_at_call 149;refine(mY I.heap.size true _ _ _ Y8.o bS.o.only.size).mono ?_;rintro e wz⟨vz,rfl,C,i⟩;have M:=jd C;have E:=jd (bS.o.ex i);clear C i));go_ret;have hf:=RX.vW (a:=st.bump 2) (b:=st.bump 1) (c:=5) (x:=(st.at_:Int)+1) rfl rfl;exact⟨_,_,_,rfl,M.o,E.o.q.blk,E.o.only,fU.Qv rfl (by rw[RX.sM];rfl) (by rw[RX.oW];exact Z) (show(0:Int)<=D+1 by omega) (RX.St.aW _ (by decide)) hf.1 hf.2⟩
    .rw[ae (fun h=>by cases h.2)]at f;have d0:((((x::r).length:Nat):Int)==0)=false:=by simp;omega
     generalize x::r=l at T d0 f;subst f;go_wp2_with(first|(go_at_call 152;refine(Dk.o _ p.o.q).mono ?_;rintro e L⟨v,rfl,u,B,z⟩;rw[T.o]at u⊢;have j:=jd (p.o.call z B);have lF:=jd (jq u p.o.only.size);obtain⟨Av,cv,rfl,-⟩:=u.form;clear u B z)|(go_at_call 149;refine(mY I.heap.size true _ _ _ lF.o j.o.only.size).mono ?_;rintro e wz⟨vz,rfl,C,i⟩;have M:=jd C;have E:=jd (j.o.ex i);clear C i));go_ret;exact⟨_,_,_,rfl,M.o,E.o.q.blk,E.o.only,fU.one rfl rfl Z (show(0:Int)<=D+1 by omega)⟩
   have Zx:(c==94)=false:=by simpa using t
   have J:(c==36)=false:=by simpa using A
   have S:(c==46)=false:=by simpa using k
   have V:(c==40)=false:=by simpa using H
   have b91:(c==91)=false:=by simpa using O
   have WV:(c==92)=false:=by simpa using X
   by_cases G:c=42\/c=43\/c=63\/c=123
   .rw[ae t,ae A,av G]at f;subst f;have HX:=jd (show decide (c=42\/c=43\/c=63\/c=123)=true from bJ G);clear t A k H O X G;go_upto_region 22 with(first|(go_at_call 55;refine(Ll c _).mono ?_;rw[HX.o];rintro e L⟨rfl,G⟩;have j:=jd (p.o.ex G);clear G)|(go_at_call 91;refine(iK _ _ 5 (st.at_:Int) j.o.q).mono ?_;rintro e w4⟨rfl,B,z⟩;have bS:=jd (j.o.call z B);clear B z));have h7a:(st.fail 5 (st.at_:Int)).at_<=100:=by rw[RX.oW];omega
    have c1:=bS.o.q.blk.c1;have f1:=bS.o.q.blk.fr 1;go_upto_region 23 with fail;have U:=jd bS.o.bZ;generalize w4.setCell _ _=w5 at U⊢;clear c1 f1;go_wp2_with(go_at_call 149;refine(mY I.heap.size false _ _ _ (BD w5 [c,c] _ _ rfl rfl U.o.only.size (by simp)) (by have:=U.o.only.size;simp;omega)).mono ?_;rintro e wz⟨vz,rfl,C,i⟩;have M:=jd C;have E:=jd (U.o.ex (((aa w5).alloc _).trans i));clear C i);go_ret;exact⟨_,_,_,rfl,M.o,E.o.q.blk,E.o.only,fU.Qv rfl (RX.sM _ _ _) (by show(st.fail 5 (st.at_:Int)).at_+1<=N+1;rw[RX.oW];exact Q) (show(0:Int)<=D+1 by omega) (RX.St.aW _ (by decide)) rfl rfl⟩
   rw[ae t,ae A,ae G,ae H,ae O,ae X,ae k]at f;subst f;have HX:=jd (show decide (c=42\/c=43\/c=63\/c=123)=false from bR G);clear t A k H O X G;go_upto_region 22 with(go_at_call 55;refine(Ll c _).mono ?_;rw[HX.o];rintro e L⟨rfl,G⟩;have j:=jd (p.o.ex G);clear G);have c1:=j.o.q.blk.c1;have f1:=j.o.q.blk.fr 1;go_upto_region 23 with fail;have U:=jd j.o.bZ;generalize L.setCell _ _=w5 at U⊢;clear c1 f1;go_wp2_with(go_at_call 149;refine(mY I.heap.size false _ _ _ (BD w5 [c,c] _ _ rfl rfl U.o.only.size (by simp)) (by have:=U.o.only.size;simp;omega)).mono ?_;rintro e wz⟨vz,rfl,C,i⟩;have M:=jd C;have E:=jd (U.o.ex (((aa w5).alloc _).trans i));clear C i);go_ret;exact⟨_,_,_,rfl,M.o,E.o.q.blk,E.o.only,fU.one rfl rfl Q (show(0:Int)<=D+1 by omega)⟩
 all_goals
  have j:=jd p.o.bZ;generalize w2.setCell _ _=L at j⊢;clear c1 f1;go_wp2_with fail;go_ret;exact⟨_,_,_,rfl,(Dl rfl j.o.only.size CR.FW).sl,(j.o.ex ((aa _).alloc _)).q.blk,(j.o.ex ((aa _).alloc _)).only,fU.one rfl rfl Q (show(0:Int)<=D+1 by omega)⟩
end
end Go.Proofs.YtcogknbbbjnaiaaGreatDoor
