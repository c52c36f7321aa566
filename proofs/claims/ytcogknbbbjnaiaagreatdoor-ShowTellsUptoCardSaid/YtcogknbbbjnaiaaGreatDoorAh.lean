/- For ShowTells: what the texts XShI XShJ of wip/tpl say. -/
import Derived.Test.YtcogknbbbjnaiaaGreatDoorU
import Derived.Test.YtcogknbbbjnaiaaGreatDoorAg
set_option maxRecDepth 100000
set_option maxHeartbeats 4000000
namespace Go.Proofs.YtcogknbbbjnaiaaGreatDoor
open Go.RowKit
namespace SH
def zb(x:dC):Bool:=zB (if bN x.kind then 0 else x.num) (if bT x.kind then 0 else x.text.length) (if x.kind=3 then 0 else x.items.length) (if bF x.kind then 0 else x.pat.length) (if bF x.kind then 0 else x.forms.length) (!bF x.kind&&x.all) (!bF x.kind&&x.fold)
def jX(x:dC):Bool:=if x.kind=0 then !x.text.isEmpty&&Bd x.text
 else if x.kind=1 then true
 else if x.kind=2 then decide (x.deep<12)
 else if x.kind=3 then Fv x.items
 else if x.kind=4 then lU x.pat&&FM.may x.forms
 else if x.kind=5 then fA x.text
 else if x.kind=6 then fA x.text&&decide (x.deep<12)
 else if x.kind=7 then fA x.text&&(lU x.pat&&FM.may x.forms)
 else false
theorem qh{α:Type}(l:List α):decide (0<l.length)=!l.isEmpty:=by cases l<;>simp
theorem qi{α:Type}(l:List α) [Decidable (l=[])]:decide (l=[])=l.isEmpty:=by cases l<;>simp
theorem Bg(x:dC):ok1 x=(zb x&&(decide (0<=x.num)&&(decide (x.num<=999)&&(decide (0<=x.deep)&&(decide (x.deep<=12)&&jX x))))):=by
 obtain⟨k,d,n,t,s,p,fo,u,v⟩:=x;unfold ok1 zb jX okK dS zB Fv bN bT bF;dsimp only;by_cases a:k=0
 .subst a;simp only[qh];simp;simp only[qi];ac_rfl
 by_cases e:k=1
 .subst e;simp only[qh];simp;simp only[qi];ac_rfl
 by_cases f:k=2
 .subst f;simp only[qh];simp;simp only[qi];ac_rfl
 by_cases h:k=3
 .subst h;simp only[qh];simp;simp only[qi];ac_rfl
 by_cases i:k=4
 .subst i;simp only[qh];simp;simp only[qi];ac_rfl
 by_cases j:k=5
 .subst j;simp only[qh];simp;simp only[qi];ac_rfl
 by_cases m:k=6
 .subst m;simp only[qh];simp;simp only[qi];ac_rfl
 by_cases r:k=7
 .subst r;simp only[qh];simp;simp only[qi];ac_rfl
 simp[a,e,f,h,i,j,m,r]
end SH
theorem Sw(x:SH.dC)(vt vi vp vf:Value)(w:World)(h:nS w x vt vi vp vf)(W:World):Calls Tryz.prog 59 #[jW x vt vi vp vf] W (qL (.bool (SH.zb x)) W):=by
 obtain⟨At,i,j,k,m,p,r,cf,rfl,rfl,rfl,rfl,-⟩:=h.shape;clear h;unfold jW SH.zb;generalize bN x.kind=d;generalize bT x.kind=e;generalize bF x.kind=f;by_cases a:x.kind=3;focus
  simp only[av a]
 rotate_left;focus
  simp only[ae a]
 rotate_left;all_goals
  cases d<;>cases e<;>cases f<;>simp only[reduceIte,Bool.false_eq_true,Bool.not_true,Bool.not_false,Bool.true_and,Bool.false_and]<;>apply VU
theorem Sy(x:SH.dC)(vt vi vp vf:Value)(w:World)(h:nS w x vt vi vp vf)(hp:x.pat.length<=1000000000):Calls Tryz.prog 43 #[Gn x vt vi vp vf] w (qL (.bool (SH.ok1 x)) w):=by
 have U:=jd (fun W(s:Ext w W)=>VV x vt vi vp vf W (h.ext s));have A:=jd (fun W=>Sw x vt vi vp vf w h W);have M:=jd (fun W(s:Ext w W)=>yP x.text vt W (h.text.ext s));have G:=jd (fun W(s:Ext w W)=>VP x.text vt W (h.text.ext s));have N:=jd (fun W(s:Ext w W)=>OJ x.items vi W (h.items.ext s));have O:=jd (fun W(s:Ext w W)=>Ji x.pat vp W (h.pat.ext s) hp);have H:=jd (fun W(s:Ext w W)=>K9 x.forms vf W (h.forms.ext s));have B:=jd (SH.Bg x);obtain⟨At,ct,Ai,ci,Ap,cp,Af,cf,rfl,rfl,rfl,rfl,-⟩:=h.shape;clear h hp;obtain⟨k,d,n,t,K,p,fo,V,X⟩:=x;obtain⟨bv,P⟩:∃bv,jW ⟨k,d,n,t,K,p,fo,V,X⟩ (.slice At t.length ct) (.slice Ai K.length ci) (.slice Ap p.length cp) (.slice Af fo.length cf)=bv:=⟨_,rfl⟩;rw[P]at U A;clear P;obtain⟨z,hz⟩:∃z,SH.zb ⟨k,d,n,t,K,p,fo,V,X⟩=z:=⟨_,rfl⟩;rw[hz]at A B;obtain⟨R,hR⟩:∃R,SH.ok1 ⟨k,d,n,t,K,p,fo,V,X⟩=R:=⟨_,rfl⟩;rw[hR]at B⊢;dsimp only[Gn,dK]at U M G N O H B⊢;clear hz hR;rcases z with _|_;focus
  skip;have a:=jd (show R=false by rw[B.o];rfl)
 rotate_left;focus
  by_cases q0:0<=n;rotate_left;focus
   have WZ:n<0:=by omega
   have a:=jd (show R=false by rw[B.o];simp[*])
  rotate_left;focus
   by_cases q1:n<=999;rotate_left;focus
    have W9:999<n:=by omega
    have a:=jd (show R=false by rw[B.o];simp[*])
   rotate_left;focus
    by_cases q2:0<=d;rotate_left;focus
     have q2b:d<0:=by omega
     have a:=jd (show R=false by rw[B.o];simp[*])
    rotate_left;focus
     by_cases q3:d<=12;rotate_left;focus
      have q3b:12<d:=by omega
      have a:=jd (show R=false by rw[B.o];simp[*])
     rotate_left;focus
      have j:=jd (show R=SH.jX ⟨k,d,n,t,K,p,fo,V,X⟩by rw[B.o];simp[*]);go_enter Tryz.func43,Tryz.ntmps43;go_upto_region 3 with(first|(go_at_call 60;refine(U.o _ ((aa w).alloc _)).mono ?_;rintro e w2⟨rfl,f⟩;have Q:=jd f;clear f)|(go_at_call 59;refine(A.o _).mono ?_;rintro e w3⟨rfl,f⟩;have i:=jd ((((aa w).alloc _).trans Q.o).trans f);have I:=(Q.o.trans f).heap (aB w _);obtain⟨d0,d1,d2,d3,d4,d5,d6⟩:=cc7 I;have Z:=ag I;clear f I));rcases v:(k==0)with _|_;rotate_left
      .obtain rfl:k=0:=by simpa using v
       clear v;by_cases e:t=[]
       .have e1:¬(0:Int)<t.length:=by simp[e]
        have e2:¬0<t.length:=by simp[e]
        have a:=jd (show R=false by rw[j.o];simp[SH.jX,e]);go_wp2_with fail;go_ret;exact⟨aH (by rw[a.o];first|done|rfl),i.o⟩
       .have e0:0<t.length:=gq.2 e;have e1:(0:Int)<t.length:=by omega
        have a:=jd (show R=SH.Bd t by rw[j.o];simp[SH.jX,e]);go_wp2_with(go_at_call 61;refine(M.o _ i.o).mono ?_;rintro e C⟨rfl,u,rfl⟩);go_ret;exact⟨aH (by rw[a.o];first|done|rfl),(by(focus(repeat(first|exact i.o|exact m.o|exact r.o|apply ah|apply af))))⟩
      rcases D:(k==1)with _|_;rotate_left
      .obtain rfl:k=1:=by simpa using D
       clear D v;have a:=jd (show R=true by rw[j.o];simp[SH.jX]);go_wp2_with fail;go_ret;exact⟨aH (by rw[a.o];first|done|rfl),i.o⟩
      rcases F:(k==2)with _|_;rotate_left
      .obtain rfl:k=2:=by simpa using F
       clear F v D;have a:=jd (show R=decide (d<12)by rw[j.o];simp[SH.jX]);go_wp2_with fail;go_ret;exact⟨aH (by rw[a.o];first|done|rfl),i.o⟩
      rcases J:(k==3)with _|_;rotate_left
      .obtain rfl:k=3:=by simpa using J
       clear J v D F;have a:=jd (show R=Fv K by rw[j.o];simp[SH.jX]);go_wp2_with(go_at_call 62;refine(N.o _ i.o).mono ?_;rintro e C⟨rfl,u,rfl⟩);go_ret;exact⟨aH (by rw[a.o];first|done|rfl),(by(focus(repeat(first|exact i.o|exact m.o|exact r.o|apply ah|apply af))))⟩
      rcases L:(k==4)with _|_;rotate_left
      .obtain rfl:k=4:=by simpa using L
       clear L v D F J;rcases e:SH.lU p with _|_
       .have E:=jd e;clear e;have a:=jd (show R=false by rw[j.o];simp[SH.jX,E.o]);go_wp2_with(go_at_call 63;refine(O.o _ i.o).mono ?_;rw[E.o];rintro e C⟨rfl,f⟩;have r:=jd (jv i.o f);clear f);go_ret;exact⟨aH (by rw[a.o];first|done|rfl),(by(focus(repeat(first|exact i.o|exact m.o|exact r.o|apply ah|apply af))))⟩
       .have E:=jd e;clear e;have a:=jd (show R=FM.may fo by rw[j.o];simp[SH.jX,E.o]);go_wp2_with(first|(go_at_call 63;refine(O.o _ i.o).mono ?_;rw[E.o];rintro e C⟨rfl,f⟩;have r:=jd (jv i.o f);have d6:=f.cell d6;clear f)|(go_at_call 64;refine(H.o _ r.o).mono ?_;rintro e w5⟨rfl,f⟩;have m:=jd (jv r.o f);clear f));go_ret;exact⟨aH (by rw[a.o];first|done|rfl),(by(focus(repeat(first|exact i.o|exact m.o|exact r.o|apply ah|apply af))))⟩
      rcases S:(k==5)with _|_;rotate_left
      .obtain rfl:k=5:=by simpa using S
       clear S v D F J L;have a:=jd (show R=SH.fA t by rw[j.o];simp[SH.jX]);go_wp2_with(go_at_call 65;refine(G.o _ i.o).mono ?_;rintro e C⟨rfl,u,rfl⟩);go_ret;exact⟨aH (by rw[a.o];first|done|rfl),(by(focus(repeat(first|exact i.o|exact m.o|exact r.o|apply ah|apply af))))⟩
      rcases Y:(k==6)with _|_;rotate_left
      .obtain rfl:k=6:=by simpa using Y
       clear Y v D F J L S;rcases e:SH.fA t with _|_
       .have E:=jd e;clear e;have a:=jd (show R=false by rw[j.o];simp[SH.jX,E.o]);go_wp2_with(go_at_call 65;refine(G.o _ i.o).mono ?_;rw[E.o];rintro e C⟨rfl,u,rfl⟩);go_ret;exact⟨aH (by rw[a.o];first|done|rfl),(by(focus(repeat(first|exact i.o|exact m.o|exact r.o|apply ah|apply af))))⟩
       .have E:=jd e;clear e;have a:=jd (show R=decide (d<12)by rw[j.o];simp[SH.jX,E.o]);go_wp2_with(go_at_call 65;refine(G.o _ i.o).mono ?_;rw[E.o];rintro e C⟨rfl,u,rfl⟩);go_ret;exact⟨aH (by rw[a.o];first|done|rfl),(by(focus(repeat(first|exact i.o|exact m.o|exact r.o|apply ah|apply af))))⟩
      rcases h7:(k==7)with _|_;rotate_left
      .obtain rfl:k=7:=by simpa using h7
       clear h7 v D F J L S Y;rcases e:SH.fA t with _|_
       .have E:=jd e;clear e;have a:=jd (show R=false by rw[j.o];simp[SH.jX,E.o]);go_wp2_with(go_at_call 65;refine(G.o _ i.o).mono ?_;rw[E.o];rintro e C⟨rfl,u,rfl⟩);go_ret;exact⟨aH (by rw[a.o];first|done|rfl),(by(focus(repeat(first|exact i.o|exact m.o|exact r.o|apply ah|apply af))))⟩
       have E:=jd e;clear e;rcases e:SH.lU p with _|_
       .have T:=jd e;clear e;have a:=jd (show R=false by rw[j.o];simp[SH.jX,E.o,T.o]);go_wp2_with(first|(go_at_call 65;refine(G.o _ i.o).mono ?_;rw[E.o];rintro e C⟨rfl,u,rfl⟩)|(go_at_call 63;refine(O.o _ (i.o.drewN u)).mono ?_;rw[T.o];rintro e w5⟨rfl,f⟩;have m:=jd (jv (i.o.drewN u) f);clear f));go_ret;exact⟨aH (by rw[a.o];first|done|rfl),(by(focus(repeat(first|exact i.o|exact m.o|exact r.o|apply ah|apply af))))⟩
       .have T:=jd e;clear e;have a:=jd (show R=FM.may fo by rw[j.o];simp[SH.jX,E.o,T.o]);go_wp2_with(first|(go_at_call 65;refine(G.o _ i.o).mono ?_;rw[E.o];rintro e C⟨rfl,u,rfl⟩)|(go_at_call 63;refine(O.o _ (i.o.drewN u)).mono ?_;rw[T.o];rintro e w5⟨rfl,f⟩;have m:=jd (jv (i.o.drewN u) f);have d6:=f.cell d6;clear f)|(go_at_call 64;refine(H.o _ m.o).mono ?_;rintro e w6⟨rfl,f⟩;have WS:=jd (jv m.o f);clear f));go_ret;exact⟨aH (by rw[a.o];first|done|rfl),(by(focus(repeat(first|exact i.o|exact WS.o|exact m.o|exact r.o|apply ah|apply af))))⟩
      have g0:¬k=0:=by simpa using v
      have g1:¬k=1:=by simpa using D
      have g2:¬k=2:=by simpa using F
      have g3:¬k=3:=by simpa using J
      have g4:¬k=4:=by simpa using L
      have g5:¬k=5:=by simpa using S
      have g6:¬k=6:=by simpa using Y
      have g7:¬k=7:=by simpa using h7
      have HW0:=jd (show R=false by rw[j.o];simp[SH.jX,g0,g1,g2,g3,g4,g5,g6,g7]);clear g0 g1 g2 g3 g4 g5 g6 g7;have a:=jd (show R=false by exact HW0.o);go_wp2_with fail;go_ret;exact⟨aH (by rw[a.o];first|done|rfl),i.o⟩
 all_goals
  go_enter Tryz.func43,Tryz.ntmps43;go_wp2_with(first|(go_at_call 60;refine(U.o _ ((aa w).alloc _)).mono ?_;rintro e w2⟨rfl,f⟩;have Q:=jd f;clear f)|(go_at_call 59;refine(A.o _).mono ?_;rintro e w3⟨rfl,f⟩;have i:=jd ((((aa w).alloc _).trans Q.o).trans f);have I:=(Q.o.trans f).heap (aB w _);obtain⟨d0,d1,d2,d3,d4,d5,d6⟩:=cc7 I;have Z:=ag I;clear f I));go_ret;exact⟨aH (by rw[a.o];first|done|rfl),i.o⟩
def Xa(f:Nat->Bool):Array Value:=((List.range 13).map fun j=>Value.bool (f j)).toArray
theorem Dn(f:Nat->Bool)(i:Nat)(h:i<13):(Xa f)[i]?=some (.bool (f i)):=by simp[Xa,List.getElem?_range h]
theorem Jl(f:Nat->Bool)(i:Nat)(b:Bool):(Xa f).setIfInBounds i (.bool b)=Xa (fun k=>if k=i then b else f k):=by
 apply Array.ext
 .simp[Xa]
 .intro j m a;have d:j<13:=by simpa[Xa]using a
  rw[Array.getElem_setIfInBounds (by simpa[Xa]using d)];simp only[Xa,List.getElem_toArray,List.getElem_map,List.getElem_range];by_cases e:i=j
  .subst e;simp
  .rw[ae e,ae (fun h=>e h.symm)]
theorem pq{w:World}{p o g:Nat}{u:Value}(h:g≠p):(w.setCell ⟨p,o,none⟩ u).heap[g]?=w.heap[g]?:=by simp only[World.setCell,Array.getElem?_modify];rw[ae (fun e=>h e.symm)]
namespace SH
theorem acH{x:dC}{f:Nat->Bool}(h:holds x=true):(fun k=>if k=x.deep.toNat+1 then false else if k=x.deep.toNat then decide (x.kind=0)else f k)=nf x f:=by funext k;unfold nf;simp only[h,true_and]
theorem acI{x:dC}{f:Nat->Bool}(h:holds x=false):(fun k=>if k=x.deep.toNat then decide (x.kind=0)else f k)=nf x f:=by funext k;unfold nf;simp[h]
theorem uW{x:dC}(h:ok1 x=true):0<=x.deep/\x.deep<=12/\(holds x=true->x.deep<12):=by
 rw[Bg]at h;simp only[jR,jf]at h;refine⟨h.2.2.2.1,h.2.2.2.2.1,fun a=>?_⟩;have d:=h.2.2.2.2.2;unfold holds at a;simp only[Bool.or_eq_true,jf]at a;unfold jX at d;rcases a with a|a
 .simpa[a]using d
 .simp[a]at d;exact d.2
theorem wh{l:List dC}{k:Nat}(h:k<l.length)(D:Nat)(f:Nat->Bool):ic D f (l.drop k)=(ok1 l[k]&&decide (l[k].deep<=D)&&!(decide (l[k].kind=0)&&f l[k].deep.toNat)&&ic (nd l[k]) (nf l[k] f) (l.drop (k+1))):=by rw[ed h,ic]
theorem Qy{x:dC}(h:ok1 x=true):nd x<=12:=by
 obtain⟨e,f,a⟩:=uW h;unfold nd;split
 .rename_i d;have:=a d;omega
 .omega
end SH
def Fit(l:List SH.dC):Prop:=∀x∈l,x.pat.length<=1000000000
theorem uX(l:List SH.dC)(v:Value)(w:World)(hv:jH w v l)(hf:Fit l):Calls Tryz.prog 17 #[v] w (qL (.bool (SH.may l)) w):=by
 obtain⟨A,ca,rfl,hlc,hcm⟩:=hv.kQ;have HV:=jd hv;have YB:=jd hf;obtain⟨R,hR⟩:∃R,SH.may l=R:=⟨_,rfl⟩;have HR:=jd (show SH.ic 0 (fun _=>false) (l.drop 0)=R from hR);rw[hR];obtain⟨J,htb⟩:∃J,J=w.heap.size:=⟨_,rfl⟩;have lY:=jd (show w.heap.size<=J by omega);clear hv hf hR;go_enter Tryz.func17,Tryz.ntmps17;go_upto_region 2 with fail;have HT:=jd (show(w.alloc (.cells #[.bool false,.bool false,.bool false,.bool false,.bool false,.bool false,.bool false,.bool false,.bool false,.bool false,.bool false,.bool false,.bool false] 81)).heap[J]?=some (.cells (Xa fun _=>false) 81 (0,0))by rw[htb];exact aB w _);have HE:=jd ((aa w).alloc (.cells #[.bool false,.bool false,.bool false,.bool false,.bool false,.bool false,.bool false,.bool false,.bool false,.bool false,.bool false,.bool false,.bool false] 81));rw[<-htb];clear htb;go_wp2_with fail;go_loopw[4,9](fun D i wr=>∃(k e:Nat)(f:Nat->Bool),k<=l.length/\e<=12/\D=.int .i64 (e:Int)/\i=.int .i64 (k:Int)/\Ext w wr/\wr.heap[J]?=some (.cells (Xa f) 81 (0,0))/\SH.ic e f (l.drop k)=R)(fun _ i _=>l.length-(intOf i).toNat);case atStart=>exact⟨0,0,fun _=>false,aL _,by omega,rfl,rfl,HE.o,HT.o,HR.o⟩
 case round=>
  obtain⟨k,e,f,hk,he,rfl,rfl,hE,hT,hM⟩:=hrel;have Q:=jd hE;have nR:=jd hT;have Zu:=jd hM;clear hE hT hM;by_cases hlt:k<l.length;rotate_left
  .have t:=jd (show true=R by rw[<-Zu.o,jg (by omega)];rfl);go_wp2_with fail;go_ret;exact⟨aH (by rw[<-t.o];first|done|rfl),Q.o⟩
  have s:=jd ((SH.wh hlt e f).symm.trans Zu.o);obtain⟨g,o,vt,vi,vp,vf,rfl,U,d⟩:=HV.o.P5 hlt;have iF:=jd U;have uh:=jd (YB.o l[k] (bK hlt));generalize l[k]=x at U d s iF uh;obtain⟨At,ct,Ai,ci,Ap,cp,Af,cf,rfl,rfl,rfl,rfl,-⟩:=U.shape;have B:=Q.o.cell (d 0 _ rfl);have C:=Q.o.cell (d 1 _ rfl);have K:=Q.o.cell (d 2 _ rfl);have L:=Q.o.cell (d 3 _ rfl);have M:=Q.o.cell (d 4 _ rfl);have N:=Q.o.cell (d 5 _ rfl);have d6:=Q.o.cell (d 6 _ rfl);have O:=Q.o.cell (d 7 _ rfl);have P:=Q.o.cell (d 8 _ rfl);rw[fB]at B;have hbl:=iP _ _ B;have Tg:=jd (fun W(hW:Ext w W)=>Sy x _ _ _ _ W (iF.o.ext hW) uh.o);have Mh:=jd (fun W(hW:Ext w W)=>H6 x _ _ _ _ W (iF.o.ext hW));clear U d;obtain⟨m,dp,E,tx,F,G,fo,H,I⟩:=x;dsimp only[Gn,dK]at B C K L M N d6 O P Tg Mh;go_upto_region 6 with fail;obtain⟨nb,hnb⟩:∃nb,nb=wr.heap.size:=⟨_,rfl⟩;have j3:=jd (aB wr (.cells #[.int .i64 m,.int .i64 dp,.int .i64 E,.slice At tx.length ct,.slice Ai F.length ci,.slice Ap G.length cp,.slice Af fo.length cf,.bool H,.bool I] 28));have xc:=jd ((aa wr).alloc (.cells #[.int .i64 m,.int .i64 dp,.int .i64 E,.slice At tx.length ct,.slice Ai F.length ci,.slice Ap G.length cp,.slice Af fo.length cf,.bool H,.bool I] 28));have V:=jd (xc.o.heap nR.o);rw[<-hnb]at j3⊢;have mD:=jd (show J<nb by rw[hnb];exact ag nR.o);clear B C K L M N d6 O P hbl hnb;generalize wr.alloc (.cells #[.int .i64 m,.int .i64 dp,.int .i64 E,.slice At tx.length ct,.slice Ai F.length ci,.slice Ap G.length cp,.slice Af fo.length cf,.bool H,.bool I] 28)=w1 at j3 xc V⊢;obtain⟨B,C,K,L,M,N,d6,O,P⟩:=BH j3.o;have T:=jd (Q.o.trans xc.o);rcases ho:SH.ok1 ⟨m,dp,E,tx,F,G,fo,H,I⟩with _|_
  .have t:=jd (show false=R by rw[<-s.o,ho];rfl);rw[ho]at Tg;clear ho;go_wp2_with(go_at_call 43;refine(Tg.o _ T.o).mono ?_;rintro e w2⟨rfl,a⟩;have X:=jd a;clear a);go_ret;exact⟨aH (by rw[<-t.o];first|done|rfl),T.o.trans X.o⟩
  have kM:=jd ho;obtain⟨q0,q1,q2⟩:=SH.uW ho;have nI:=jd q2;have xG:=SH.Qy ho;rw[ho]at Tg s;dsimp only at q0 q1 nI s;clear ho q2;obtain⟨dd,rfl⟩:∃dd:Nat,dp=dd:=⟨dp.toNat,by omega⟩;rw[ko]at s;by_cases hde:dd<=e;rotate_left
  .have hd2:(e:Int)<dd:=by omega
   have t:=jd (show false=R by rw[<-s.o];simp[show¬(dd:Int)<=e by omega]);clear hde;go_wp2_with(go_at_call 43;refine(Tg.o _ T.o).mono ?_;rintro e' w2⟨rfl,a⟩;have X:=jd a;have C:=a.cell C;clear a);go_ret;exact⟨aH (by rw[<-t.o];first|done|rfl),T.o.trans X.o⟩
  have hd2:¬(e:Int)<dd:=by omega
  have HDE:=jd (show decide ((dd:Int)<=(e:Int))=true from bJ (by omega));have hd3:¬e<dd:=by omega
  have NV:=jd (fun(h3:(decide (m=0)&&f dd)=false)=>show SH.ic (SH.nd ⟨m,(dd:Int),E,tx,F,G,fo,H,I⟩) (SH.nf ⟨m,(dd:Int),E,tx,F,G,fo,H,I⟩ f) (l.drop (k+1))=R by rw[<-s.o,h3,HDE.o];rfl);have aek:=jd (fun(h:SH.holds ⟨m,(dd:Int),E,tx,F,G,fo,H,I⟩=true)=>show SH.nd ⟨m,(dd:Int),E,tx,F,G,fo,H,I⟩=dd+1/\SH.nf ⟨m,(dd:Int),E,tx,F,G,fo,H,I⟩ f=(fun j=>if j=dd+1 then false else if j=dd then decide (m=0)else f j)from⟨by simp[SH.nd,h],(SH.acH h).symm⟩);have ael:=jd (fun(h:SH.holds ⟨m,(dd:Int),E,tx,F,G,fo,H,I⟩=false)=>show SH.nd ⟨m,(dd:Int),E,tx,F,G,fo,H,I⟩=dd/\SH.nf ⟨m,(dd:Int),E,tx,F,G,fo,H,I⟩ f=(fun j=>if j=dd then decide (m=0)else f j)from⟨by simp[SH.nd,h],(SH.acI h).symm⟩);have htn:J≠nb:=by have:=mD.o;omega
  have HTN:=jd htn;clear htn;rcases hk0:(m==0)with _|_;focus
   have zW:=jd (show decide (m=0)=false by simpa using hk0);have Hl:=jd (show(decide (m=0)&&f dd)=false by rw[zW.o];rfl);go_upto_region 8 with(go_at_call 43;refine(Tg.o _ T.o).mono ?_;rintro e' w2⟨rfl,a⟩;have X:=jd a;have r:=jd (a.heap V.o);have Y:=jd (a.heap j3.o);have B:=a.cell B;have C:=a.cell C;have K:=a.cell K;have L:=a.cell L;have M:=a.cell M;have N:=a.cell N;have d6:=a.cell d6;have O:=a.cell O;have P:=a.cell P;have S:=cy dd r.o;rw[Dn f dd (by omega)]at S;clear a);have fr:=fq dd r.o;go_upto_region 9 with fail;have sZ:=jd (Ext.set (p:=⟨J,dd,none⟩) (T.o.trans X.o) lY.o (.bool false));have z:=jd (aP (o:=dd) (u:=.bool false) r.o);rw[Jl]at z;have Z:=jd ((pq (w:=w2) (o:=dd) (u:=.bool false) HTN.o.symm).trans Y.o);clear B C K L M N d6 O P S fr;generalize w2.setCell ⟨J,dd,none⟩ (.bool false)=w3 at sZ z Z⊢
  rotate_left;focus
   have zW:=jd (show decide (m=0)=true by simpa using hk0);rcases ZC:f dd with _|_;focus
    have Hl:=jd (show(decide (m=0)&&f dd)=false by rw[ZC,Bool.and_false]);go_upto_region 8 with(go_at_call 43;refine(Tg.o _ T.o).mono ?_;rintro e' w2⟨rfl,a⟩;have X:=jd a;have r:=jd (a.heap V.o);have Y:=jd (a.heap j3.o);have B:=a.cell B;have C:=a.cell C;have K:=a.cell K;have L:=a.cell L;have M:=a.cell M;have N:=a.cell N;have d6:=a.cell d6;have O:=a.cell O;have P:=a.cell P;have S:=cy dd r.o;rw[Dn f dd (by omega)]at S;rw[ZC]at S;clear a);clear ZC;have fr:=fq dd r.o;go_upto_region 9 with fail;have sZ:=jd (Ext.set (p:=⟨J,dd,none⟩) (T.o.trans X.o) lY.o (.bool true));have z:=jd (aP (o:=dd) (u:=.bool true) r.o);rw[Jl]at z;have Z:=jd ((pq (w:=w2) (o:=dd) (u:=.bool true) HTN.o.symm).trans Y.o);clear B C K L M N d6 O P S fr;generalize w2.setCell ⟨J,dd,none⟩ (.bool true)=w3 at sZ z Z⊢
   rotate_left
   .have t:=jd (show false=R by rw[<-s.o,ZC,zW.o,HDE.o];rfl);go_wp2_with(go_at_call 43;refine(Tg.o _ T.o).mono ?_;rintro e' w2⟨rfl,a⟩;have X:=jd a;have r:=jd (a.heap V.o);have Y:=jd (a.heap j3.o);have B:=a.cell B;have C:=a.cell C;have K:=a.cell K;have L:=a.cell L;have M:=a.cell M;have N:=a.cell N;have d6:=a.cell d6;have O:=a.cell O;have P:=a.cell P;have S:=cy dd r.o;rw[Dn f dd (by omega)]at S;rw[ZC]at S;clear a);go_ret;exact⟨aH (by rw[<-t.o];first|done|rfl),T.o.trans X.o⟩
  rotate_left;all_goals
   obtain⟨B,C,K,L,M,N,d6,O,P⟩:=BH Z.o;rcases hh:SH.holds ⟨m,(dd:Int),E,tx,F,G,fo,H,I⟩with _|_
   .rw[hh]at Mh;have HF:=jd (ael.o hh);clear hh;go_wp2_with(go_at_call 39;refine(Mh.o _ sZ.o).mono ?_;rintro e' w4⟨rfl,a⟩;have jY:=jd a;clear a);go_roundw;case rel=>exact⟨k+1,dd,_,by omega,by omega,rfl,by go_num,sZ.o.trans jY.o,jY.o.heap z.o,by have:=NV.o Hl.o;rw[HF.o.1,HF.o.2,zW.o]at this;exact this⟩
    case measure=>simp[intOf];omega
   .rw[hh]at Mh;have HF:=jd (aek.o hh);have h12:=nI.o hh;have h13:(dd:Int)+1<13:=by omega
    clear hh;go_wp2_with(go_at_call 39;refine(Mh.o _ sZ.o).mono ?_;rintro e' w4⟨rfl,a⟩;have jY:=jd a;have Gd:=jd (a.heap z.o);have fr:=fq (dd+1) Gd.o;have S:=cy (dd+1) Gd.o;rw[Dn _ (dd+1) (by omega)]at S;clear a);go_roundw;case rel=>have h9:=aP (o:=dd+1) (u:=.bool false) Gd.o;rw[Jl]at h9;exact⟨k+1,dd+1,_,by omega,by omega,by go_num,by go_num,Ext.set (p:=⟨J,dd+1,none⟩) (sZ.o.trans jY.o) lY.o (.bool false),h9,by have:=NV.o Hl.o;rw[HF.o.1,HF.o.2,zW.o]at this;exact this⟩
    case measure=>simp[intOf];omega
end Go.Proofs.YtcogknbbbjnaiaaGreatDoor
