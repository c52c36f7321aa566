/- For ShowTells: what the texts XShY XShZa of wip/tpl say. -/
import Derived.Test.YtcogknbbbjnaiaaGreatDoorAo
import Derived.Test.YtcogknbbbjnaiaaGreatDoorAp
set_option maxRecDepth 100000
set_option maxHeartbeats 4000000
namespace Go.Proofs.YtcogknbbbjnaiaaGreatDoor
open Go.RowKit
theorem SH.O3(x:SH.dC):(SH.body x).length<=2*x.text.length+2*SH.tot x.items+2*x.pat.length+FM.nH x.forms+20:=by
 have a:=kK SH.Gp x.text;have d:=lC x.num;have e:=SH.uY x;have f:=SH.ql x.items;unfold SH.body SH.head;split
 .omega
 .simp only[ai,aF];have h:(if SH.holds x=true then[]else[(125:Int)]).length<=1:=by split<;>simp
  have i:(if x.kind=5\/x.kind=6\/x.kind=7 then x.text else SH.dec x.num).length<=x.text.length+3:=by split<;>omega
  have j:(if x.kind=2\/x.kind=6 then[(58:Int)]else if x.kind=3 then 124::(SH.dD x.items++[124])else if x.kind=4\/x.kind=7 then SH.trans x else[]).length<=2*SH.tot x.items+2*x.pat.length+FM.nH x.forms+5:=by
   split
   .simp
   split
   .simp only[aF,ai,aN];omega
   split
   .omega
   .simp
  omega
theorem O4(y:List Int)(a:Value)(W:World)(f:ib W a y)(h:y.length<=1000000000):Calls Tryz.prog 40 #[a,.string {data:=#[36,125,92]}] W (FI (FM.guard SH.Gp y) W):=by refine(oU SH.Gp ⟨#[36,125,92]⟩ (fun c w=>Dj ⟨#[36,125,92]⟩ c w (by decide)) y a W f h).mono ?_;rintro e j⟨v,rfl,d,i⟩;obtain⟨A,c,rfl,-⟩:=d.form;exact⟨A,c,rfl,d,i⟩
theorem Bl.ade{l:List SH.dC}(h:Bl l):acK l:=fun x a=>by have:=h x a;omega
theorem Jp(l:List SH.dC)(v:Value)(w:World)(hv:jH w v l)(hf:Bl l):Calls Tryz.prog 16 #[v] w (O1 l w):=by
 have HM:=jd (Cj l v w hv hf.ade);obtain⟨A,ca,rfl,hlc,hcm⟩:=hv.kQ;have HV:=jd hv;have YB:=jd hf;clear hv hf;rcases lu:SH.may l with _|_
 .have HF:=jd (show SH.res l=([],1)by unfold SH.res;rw[lu];rfl);rw[lu]at HM;clear lu;go_enter Tryz.func16,Tryz.ntmps16;go_wp2_with(go_at_call 18;refine HM.o.mono ?_;rintro e w2⟨rfl,hx⟩);go_ret2;unfold O1;rw[HF.o];exact⟨hx,none,0,rfl,dO⟩
 have HF:=jd (show SH.res l=if 600<(SH.print l).length then([],3)else(SH.print l,0)by unfold SH.res;rw[av lu]);have YI:=jd (show SH.ic 0 (fun _=>false) (l.drop 0)=true from lu);rw[lu]at HM;clear lu;have Ii:=jd (show∀(p:List Int)(r:List Int),p++r=SH.print l->600<p.length->SH.res l=([],3)from fun p r h h6=>by rw[HF.o,av];rw[<-h,ai];omega);go_enter Tryz.func16,Tryz.ntmps16;go_wp2_with(go_at_call 18;refine HM.o.mono ?_;rintro e w2⟨rfl,hx⟩;have HX:=jd hx;clear hx);go_loopw[4,5,6](fun vo N i wr=>∃(k d:Nat)(p:List Int)(f:Nat->Bool),k<=l.length/\d<=12/\i=.int .i64 (k:Int)/\N=.int .i64 (d:Int)/\iT w vo p wr/\p.length<=1000001000/\p++SH.Xc d (l.drop k)=SH.print l/\SH.ic d f (l.drop k)=true)(fun _ _ i _=>l.length+1-(intOf i).toNat);case atStart=>exact⟨0,0,[],fun _=>false,aL _,by omega,rfl,rfl,⟨dO,HX.o⟩,by simp,rfl,YI.o⟩
 case round=>
  obtain⟨k,d,p,f,hk,hd,rfl,rfl,H,hal,hpr,I⟩:=hrel;have HP:=jd H;have O:=jd hpr;have Tv:=jd I;obtain⟨Ao,co,rfl,-⟩:=H.own.form;clear H hpr I;have hki:(k:Int)<=l.length:=by omega
  by_cases P:k<l.length;rotate_left
  .have hke:k=l.length:=by omega
   have hkl:¬(k:Int)<l.length:=by omega
   have mQ:=jd (show p++List.replicate (d-0) 125=SH.print l by rw[<-O.o,jg (by omega)];rfl);have TK:=jd hke;clear hke;go_wp2_with fail;go_loopw[4,5](fun vo N wz=>∃(j:Nat)(s:List Int),0<=j/\j<=d/\N=.int .i64 (j:Int)/\iT w vo s wz/\s++List.replicate (j-0) 125=p++List.replicate (d-0) 125)(fun _ N _=>(intOf N).toNat);case atStart=>exact⟨d,p,by omega,az _,rfl,HP.o,rfl⟩
   obtain⟨j,s,hj1,hj2,rfl,H,D⟩:=hrel;have Q:=jd (Ax.of H);have WG:=jd D;obtain⟨Ak,ck,rfl,-⟩:=H.own.form;have SN:s.length<=1000001012:=by have:=congrArg List.length D;simp only[ai,List.length_replicate]at this;omega
   by_cases hjd:0<j
   .obtain⟨j,rfl⟩:∃i,j=i+1:=⟨j-1,by omega⟩;have JD:=jd hjd;have adf:((0:Nat):Int)<(j:Int)+1:=by omega
    have aeL:j<=12:=by omega
    clear H D;go_wp2_with(at_builtin;refine Ax.lit rfl _ _ rfl Q.o [125] rfl _ 1 rfl rfl rfl (by decide) (by omega) ?_;intro o3 A3 c3 w3 gz hl3 pW);go_roundw;case rel=>exact⟨j,o3,by have:=JD.o;omega,by omega,by first|rfl|go_num|(congr 1;omega),pW.o.bX,by rw[<-WG.o,<-gz.o,show j+1-0=(j-0)+1 by have:=JD.o;omega,List.replicate_succ];simp⟩
    case measure=>simp[intOf]
   .have R5:=jd (show s=SH.print l by have h:=WG.o;rw[show j=0 by omega]at h;rw[<-mQ.o,<-h];simp);have hj0:j=0:=by omega
    subst hj0;have hkb:((k:Int)==l.length)=true:=by have:=TK.o;simp;omega
    have hkb2:(k==l.length)=true:=by have:=TK.o;simp;omega
    by_cases h6:600<s.length
    .have YR:(600:Int)<s.length:=by omega
     have HR:=jd (Ii.o s [] (by rw[iU];exact R5.o) h6);go_wp2_with fail;go_ret2;unfold O1;rw[HR.o];exact⟨Q.o.ext,none,0,rfl,dO⟩
    .have YR:¬(600:Int)<s.length:=by omega
     have HR:=jd (show SH.res l=(s,0)by rw[HF.o,ae (by rw[<-R5.o];exact h6),R5.o]);go_wp2_with fail;go_ret2;unfold O1;rw[HR.o];exact⟨Q.o.ext,_,_,rfl,Q.o.bX.own⟩
  obtain⟨g,o,vt,vi,vp,vf,rfl,R,E⟩:=HV.o.P5 P;have iF:=jd R;have uh:=jd (YB.o l[k] (bK P));have S:=SH.wh P d f;rw[Tv.o]at S;have T:=O.o;rw[SH.LW P d]at T;generalize l[k]=x at R E iF uh S T;simp only[Eq.comm (a:=true),jR,jf,Bool.not_eq_true']at S;obtain⟨⟨⟨U,hdd⟩,-⟩,I⟩:=S;have kM:=jd U;have Tv:=jd I;have O:=jd T;obtain⟨q0,q1,q2⟩:=SH.uW U;have xG:=SH.Qy U;obtain⟨At,ct,Ai,ci,Ap,cp,Af,cf,rfl,rfl,rfl,rfl,-⟩:=R.shape;have L:=jd E;have hd1:=HP.o.ext.cell (E 1 _ rfl);have JK:=jd (fun W(hW:Ext w W)(V:x.kind≠0)=>WH W x _ _ _ _ (iF.o.ext hW) kM.o V uh.o);have rJ:=jd (SH.Ih (x:=x));have X:=jd (show x.kind≠0->SH.body x=SH.head x++(if SH.holds x then[]else[125])from fun h=>by unfold SH.body;rw[ae h]);have hbb:=SH.O3 x;clear R E U I T;obtain⟨m,dp,t,tx,u,z,fo,B,C⟩:=x;obtain⟨dd,rfl⟩:∃dd:Nat,dp=dd:=⟨dp.toNat,by dsimp only at q0;omega⟩;dsimp only[Gn,dK]at L hd1 JK O Tv hdd rJ uh hbb X;rw[ko]at O;have hde:dd<=d:=by omega
  have aeK:=uh.o;have hkl:(k:Int)<l.length:=by omega
  go_wp2_with fail;go_loopw[4,5](fun vo N wz=>∃(j:Nat)(s:List Int),dd<=j/\j<=d/\N=.int .i64 (j:Int)/\iT w vo s wz/\s++List.replicate (j-dd) 125=p++List.replicate (d-dd) 125)(fun _ N _=>(intOf N).toNat);case atStart=>exact⟨d,p,by omega,az _,rfl,HP.o,rfl⟩
  obtain⟨j,s,hj1,hj2,rfl,H,D⟩:=hrel;have Q:=jd (Ax.of H);have WG:=jd D;obtain⟨Ak,ck,rfl,-⟩:=H.own.form;have SN:s.length<=1000001012:=by have:=congrArg List.length D;simp only[ai,List.length_replicate]at this;omega
  by_cases hjd:dd<j
  .obtain⟨j,rfl⟩:∃i,j=i+1:=⟨j-1,by omega⟩;have JD:=jd hjd;have adf:((dd:Nat):Int)<(j:Int)+1:=by omega
   have aeL:j<=12:=by omega
   clear H D;go_wp2_with(at_builtin;refine Ax.lit rfl _ _ rfl Q.o [125] rfl _ 1 rfl rfl rfl (by decide) (by omega) ?_;intro o3 A3 c3 w3 gz hl3 pW);go_roundw;case rel=>exact⟨j,o3,by have:=JD.o;omega,by omega,by first|rfl|go_num|(congr 1;omega),pW.o.bX,by rw[<-WG.o,<-gz.o,show j+1-dd=(j-dd)+1 by have:=JD.o;omega,List.replicate_succ];simp⟩
   case measure=>simp[intOf]
  .have HDJ:=jd (show dd=j by omega);obtain rfl:dd=j:=by omega
   have LX:=jd (show s=p++List.replicate (d-dd) 125 by rw[<-D];simp);have adf:¬(dd:Int)<dd:=by omega
   by_cases h6:600<s.length
   .have YR:(600:Int)<s.length:=by omega
    have HR:=jd (Ii.o s _ (by rw[LX.o,lL];exact O.o) h6);go_wp2_with fail;go_ret2;unfold O1;rw[HR.o];exact⟨Q.o.ext,none,0,rfl,dO⟩
   have YR:¬(600:Int)<s.length:=by omega
   have hkb:((k:Int)==l.length)=false:=by simp;omega
   have hkb2:(k==l.length)=false:=by simp;omega
   have M:=Q.o.ext;have d0:=M.cell (L.o 0 _ rfl);have d1:=M.cell (L.o 1 _ rfl);have d2:=M.cell (L.o 2 _ rfl);have d3:=M.cell (L.o 3 _ rfl);have d4:=M.cell (L.o 4 _ rfl);have d5:=M.cell (L.o 5 _ rfl);have d6:=M.cell (L.o 6 _ rfl);have d7:=M.cell (L.o 7 _ rfl);have d8:=M.cell (L.o 8 _ rfl);rw[fB]at d0;have hbl:=iP _ _ d0;clear M H D hd1;go_upto_region 18 with fail;obtain⟨nb,hnb⟩:∃nb,nb=wr.heap.size:=⟨_,rfl⟩;have F:=jd (show ji w (wr.alloc (.cells #[.int .i64 m,.int .i64 (dd:Int),.int .i64 t,.slice At tx.length ct,.slice Ai u.length ci,.slice Ap z.length cp,.slice Af fo.length cf,.bool B,.bool C] 28)) (.slice Ak s.length ck) nb [.int .i64 m,.int .i64 (dd:Int),.int .i64 t,.slice At tx.length ct,.slice Ai u.length ci,.slice Ap z.length cp,.slice Af fo.length cf,.bool B,.bool C] (.slice Ak s.length ck) s (wr.alloc (.cells #[.int .i64 m,.int .i64 (dd:Int),.int .i64 t,.slice At tx.length ct,.slice Ai u.length ci,.slice Ap z.length cp,.slice Af fo.length cf,.bool B,.bool C] 28))from⟨(Q.o.aj ((aa wr).alloc _)).base,by rw[hnb];exact aB wr _⟩);rw[<-hnb];clear d0 d1 d2 d3 d4 d5 d6 d7 d8 hbl hnb;generalize wr.alloc (.cells #[.int .i64 m,.int .i64 (dd:Int),.int .i64 t,.slice At tx.length ct,.slice Ai u.length ci,.slice Ap z.length cp,.slice Af fo.length cf,.bool B,.bool C] 28)=w1 at F⊢;have d0:=F.o.c 0 _ rfl;have d1:=F.o.c 1 _ rfl;have d2:=F.o.c 2 _ rfl;have d3:=F.o.c 3 _ rfl;have d4:=F.o.c 4 _ rfl;have d5:=F.o.c 5 _ rfl;have d6:=F.o.c 6 _ rfl;have d7:=F.o.c 7 _ rfl;have d8:=F.o.c 8 _ rfl;have HLEN:=jd hbb;have ae1:s.length<=600:=by omega
   have Xb:=jd (show((⟨m,(dd:Int),t,tx,u,z,fo,B,C⟩:SH.dC).deep).toNat=dd from ko dd);rcases V:(m==0)with _|_;rotate_left
   .have BO:=jd (show m=0 by simpa using V);have HHF:=jd (show SH.holds ⟨m,(dd:Int),t,tx,u,z,fo,B,C⟩=false by unfold SH.holds;rw[bR (show¬m=2 by have:=BO.o;omega),bR (show¬m=6 by have:=BO.o;omega)];rfl);have Gs:=jd (show SH.nd ⟨m,(dd:Int),t,tx,u,z,fo,B,C⟩=dd by unfold SH.nd;rw[HHF.o,Xb.o];rfl);have Gh:=jd (O4 tx _ w1 (iF.o.text.ext F.o.ax.ext) (by omega));have hgb:=kK SH.Gp tx;go_wp2_with(first|(go_at_call 40;refine Gh.o.mono ?_;rintro e9 w5⟨A5,c5,rfl,J⟩;have yz:=jd J.own.sl.mV;have K:=jd (F.o.aj J.ext);clear J)|(at_builtin;refine ji.row rfl _ _ rfl K.o _ (FM.guard SH.Gp tx) yz.o rfl rfl (by omega) ?_;intro o6 A6 c6 w6 tu FR G));go_roundw;case rel=>exact⟨k+1,SH.nd ⟨m,(dd:Int),t,tx,u,z,fo,B,C⟩,o6,SH.nf ⟨m,(dd:Int),t,tx,u,z,fo,B,C⟩ f,by omega,xG,by go_num,by rw[Gs.o],G.o.ax.bX,by omega,by rw[<-O.o,<-tu.o,LX.o,rJ.o BO.o];simp,Tv.o⟩
    case measure=>simp[intOf];omega
   .have BO:=jd (show m≠0 by simpa using V);have Y:=jd (JK.o w1 F.o.ax.ext BO.o);have Z:=jd (show∀W,Calls Tryz.prog 42 #[.int .i64 m] W (qV (SH.holds ⟨m,(dd:Int),t,tx,u,z,fo,B,C⟩) W)from fun W=>Fw m W);have hhl:(SH.head ⟨m,(dd:Int),t,tx,u,z,fo,B,C⟩).length<=1000000100:=by have h1:=X.o BO.o;have h2:=congrArg List.length h1;rw[ai]at h2;have:=HLEN.o;omega
    rcases hh:SH.holds ⟨m,(dd:Int),t,tx,u,z,fo,B,C⟩with _|_
    .have Gs:=jd (show SH.nd ⟨m,(dd:Int),t,tx,u,z,fo,B,C⟩=dd by unfold SH.nd;rw[hh,Xb.o];rfl);have Dk:=jd (show SH.body ⟨m,(dd:Int),t,tx,u,z,fo,B,C⟩=SH.head ⟨m,(dd:Int),t,tx,u,z,fo,B,C⟩++[125]by rw[X.o BO.o,hh];rfl);rw[hh]at Z;clear hh;generalize SH.head ⟨m,(dd:Int),t,tx,u,z,fo,B,C⟩=hx at Y Dk hhl;have bW:True:=trivial;go_wp2_with(first|(go_at_call 41;refine Y.o.mono ?_;rintro e9 w5⟨A5,c5,rfl,J⟩;have yz:=jd J.own.sl.mV;have K:=jd (F.o.aj J.ext);clear J)|(go_at_call 42;refine(Z.o _).mono ?_;rintro e9 w9⟨rfl,rfl⟩)|(at_builtin;have _t:=bW;refine ji.row rfl _ _ rfl K.o _ hx yz.o rfl rfl (by omega) ?_;intro o6 A6 c6 w6 tu FR G;have d0:=G.o.c 0 _ rfl;clear bW _t)|(at_builtin;refine iL rfl _ _ rfl G.o [125] rfl _ 1 rfl rfl rfl (by decide) (by omega) ?_;intro o7 A7 c7 w7 JI IK HN7));go_roundw;case rel=>exact⟨k+1,SH.nd ⟨m,(dd:Int),t,tx,u,z,fo,B,C⟩,o7,SH.nf ⟨m,(dd:Int),t,tx,u,z,fo,B,C⟩ f,by omega,xG,by go_num,by rw[Gs.o],HN7.o.ax.bX,by omega,by rw[<-O.o,<-JI.o,<-tu.o,LX.o,Dk.o];simp,Tv.o⟩
     case measure=>simp[intOf];omega
    .have Gs:=jd (show SH.nd ⟨m,(dd:Int),t,tx,u,z,fo,B,C⟩=dd+1 by unfold SH.nd;rw[hh,Xb.o];rfl);have Dk:=jd (show SH.body ⟨m,(dd:Int),t,tx,u,z,fo,B,C⟩=SH.head ⟨m,(dd:Int),t,tx,u,z,fo,B,C⟩by rw[X.o BO.o,hh];simp);rw[hh]at Z;clear hh;generalize SH.head ⟨m,(dd:Int),t,tx,u,z,fo,B,C⟩=hx at Y Dk hhl;go_wp2_with(first|(go_at_call 41;refine Y.o.mono ?_;rintro e9 w5⟨A5,c5,rfl,J⟩;have yz:=jd J.own.sl.mV;have K:=jd (F.o.aj J.ext);clear J)|(go_at_call 42;refine(Z.o _).mono ?_;rintro e9 w9⟨rfl,rfl⟩)|(at_builtin;refine ji.row rfl _ _ rfl K.o _ hx yz.o rfl rfl (by omega) ?_;intro o6 A6 c6 w6 tu FR G;have d0:=G.o.c 0 _ rfl));go_roundw;case rel=>exact⟨k+1,SH.nd ⟨m,(dd:Int),t,tx,u,z,fo,B,C⟩,o6,SH.nf ⟨m,(dd:Int),t,tx,u,z,fo,B,C⟩ f,by omega,xG,by go_num,by rw[Gs.o];go_num,G.o.ax.bX,by omega,by rw[<-O.o,<-tu.o,LX.o,Dk.o];simp,Tv.o⟩
     case measure=>simp[intOf];omega
def PrR(ys:List Int)(code:Int)(w:World)(e:Ending)(w':World):Prop:=Ext w w'/\∃A c,e=.returned (.tuple #[.slice A ys.length c,.int .i64 code])/\ay 21 1 Cc w.heap.size w' (.slice A ys.length c) ys
theorem yo(l:List SH.dC)(v:Value)(w:World)(j:jH w v l)(m:Bl l)(J:Tb w):Calls Tryz.prog 6 #[v] w (qL (.bool true) w):=by
 obtain⟨R,B⟩:∃R,SH.res l=R:=⟨_,rfl⟩;obtain⟨k,code⟩:=R;obtain⟨b,C⟩:∃b,SH.may l=b:=⟨_,rfl⟩;have K:=jd (fun W(d:Ext w W)=>show Calls Tryz.prog 15 #[v] W (PrR k code W)from(yt l v W (j.ext d) m (J.ext d)).mono fun e D h=>by unfold O1 at h;rw[B]at h;exact h);have Y:=jd (fun W(d:Ext w W)=>show Calls Tryz.prog 16 #[v] W (PrR k code W)from(Jp l v W (j.ext d) m).mono fun e D h=>by unfold O1 at h;rw[B]at h;exact h);have E:=jd (fun W(d:Ext w W)=>show Calls Tryz.prog 17 #[v] W (qL (.bool b) W)from(uX l v W (j.ext d) m.fit).mono fun e D h=>by rw[C]at h;exact h);have F:=jd (fun W(d:Ext w W)=>show Calls Tryz.prog 18 #[v] W (qL (.bool b) W)from(Cj l v W (j.ext d) m.ade).mono fun e D h=>by rw[C]at h;exact h);obtain⟨A,ca,rfl,Z,hcm⟩:=j.kQ;clear j m J B C;have hbb:(b !=b)=false:=by cases b<;>rfl
 have hjj:(code !=code)=false:=by simp
 go_enter Tryz.func6,Tryz.ntmps6;go_upto_region 2 with(go_at_call 15;refine(K.o w (aa w)).mono ?_;rintro e G⟨p,A1,c1,rfl,r⟩;have L:=jd p;have H:=jd r;clear p r);go_upto_region 3 with(go_at_call 16;refine(Y.o G L.o).mono ?_;rintro e w2⟨s,A2,c2,rfl,t⟩;have a:=jd s;have M:=jd t;clear s t);have f:=jd (L.o.trans a.o);go_upto_region 5 with(first|(go_at_call 17;refine(E.o w2 f.o).mono ?_;rintro e w3⟨rfl,N⟩;have O:=jd N;clear N)|(go_at_call 18;refine(F.o w3 (f.o.trans O.o)).mono ?_;rintro e w4⟨rfl,P⟩;have I:=jd (O.o.trans P);clear P)|(go_at_call 19;refine(Ea _ _ k k w4 (H.o.sl.mV.ext (a.o.trans I.o)) (M.o.sl.mV.ext I.o)).mono ?_;rw[bJ rfl];rintro e w5⟨rfl,Q⟩;have z:=jd (I.o.trans Q);clear Q));have rT:=jd (f.o.trans z.o);have T9:=jd (Shp.of (T:=G.heap.size) (H.o.sl.keep (dQ []) (au (a.o.trans z.o)) (au (a.o.trans z.o))) (fun ad n c h=>(H.o.lt ad.block (by rw[h];rfl)).2));go_upto_region 6 with(go_at_call 20;refine(NP w.heap.size G.heap.size _ w5 T9.o).mono ?_;rintro e w6⟨rfl,i⟩;have S:=jd (Mf.ext rT.o i.R4 (az _));have tu:=jd ((M.o.dW (jh _) (fun _ _ _ ho=>z.o.heap ho)).dW (jh _) i.R4.dW);clear i);go_upto_region 7 with(go_at_call 15;refine(K.o w6 S.o).mono ?_;rintro e w7⟨U,A7,c7,rfl,u⟩;have V:=jd U;have JI:=jd u;clear U u);go_wp2_with(go_at_call 19;refine(Ea _ _ k k w7 JI.o.sl.mV (tu.o.sl.mV.ext V.o)).mono ?_;rw[bJ rfl];rintro e w8⟨rfl,X⟩;have Yg:=jd X;clear X);go_ret;exact⟨rfl,(S.o.trans V.o).trans Yg.o⟩
end Go.Proofs.YtcogknbbbjnaiaaGreatDoor
