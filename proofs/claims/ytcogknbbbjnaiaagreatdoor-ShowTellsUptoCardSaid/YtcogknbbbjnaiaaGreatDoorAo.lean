/- For ShowTells: what the texts XShN of wip/tpl say. -/
import Derived.Test.YtcogknbbbjnaiaaGreatDoorAn
set_option maxRecDepth 100000
set_option maxHeartbeats 4000000
namespace Go.Proofs.YtcogknbbbjnaiaaGreatDoor
open Go.RowKit
def its(f:Nat->Int):Array Value:=((List.range 14).map fun j=>Value.int .i64 (f j)).toArray
theorem mE(f:Nat->Int)(i:Nat)(h:i<14):(its f)[i]?=some (.int .i64 (f i)):=by simp[its,List.getElem?_range h]
theorem nZ(f:Nat->Int)(i:Nat)(b:Int):(its f).setIfInBounds i (.int .i64 b)=its (fun k=>if k=i then b else f k):=by
 apply Array.ext
 .simp[its]
 .intro j m a;have d:j<14:=by simpa[its]using a
  rw[Array.getElem_setIfInBounds (by simpa[its]using d)];simp only[its,List.getElem_toArray,List.getElem_map,List.getElem_range];by_cases e:i=j
  .subst e;simp
  .rw[ae e,ae (fun h=>e h.symm)]
namespace SH
theorem Jm{x:dC}(h:aI x=false\/x.deep<0\/12<x.deep\/(holds x=true/\12<=x.deep)):ok1 x=false:=by
 rw[H7];rcases h with h|h|h|⟨h,a⟩
 .simp[h]
 .simp[show¬0<=x.deep by omega]
 .simp[show¬x.deep<=12 by omega]
 .simp[h,a]
theorem YD{x:dC}(h:aI x=true)(a:0<=x.deep)(d:x.deep<=12)(e:(holds x&&decide (12<=x.deep))=false):ok1 x=true:=by rw[H7,h,bJ a,bJ d,e];rfl
end SH
def acK(l:List SH.dC):Prop:=∀x∈l,x.pat.length<=1000000000/\x.text.length<=1000000000
theorem Cj(l:List SH.dC)(v:Value)(w:World)(hv:jH w v l)(hf:acK l):Calls Tryz.prog 18 #[v] w (qL (.bool (SH.may l)) w):=by
 obtain⟨A,ca,rfl,hlc,hcm⟩:=hv.kQ;have HV:=jd hv;have YB:=jd hf;obtain⟨R,hR⟩:∃R,SH.may l=R:=⟨_,rfl⟩;have HR:=jd (show SH.ic 0 (fun j=>decide ((0:Int)=1)) (l.drop 0)=R from hR);rw[hR];obtain⟨K,htb⟩:∃K,K=w.heap.size:=⟨_,rfl⟩;have lY:=jd (show w.heap.size<=K by omega);clear hv hf hR;have hmk:∀W,(Instr.makeSlice 23 (.int .i64 14) (.int .i64 14)).run Tryz.prog W=.ok (.slice (some ⟨W.heap.size,0,none⟩) 14 14) (W.alloc (.cells (madeCells #[.int .i64 0] 14) 3)):=fun W=>run_make_row' (P:=Tryz.prog) 23 3 (.int .i64 0) 8 Tryz.underlying23 IP rfl .i64 .i64 14 (by omega) (by omega) W;go_enter Tryz.func18,Tryz.ntmps18;go_upto_region 2 with fail;have HT:=jd (show(w.alloc (.cells (madeCells #[.int .i64 0] 14) 3)).heap[K]?=some (.cells (its fun _=>0) 3 (0,0))by rw[htb,show madeCells #[Value.int .i64 0] 14=its (fun _=>0)by kernel_rfl];exact aB w _);have HE:=jd ((aa w).alloc (.cells (madeCells #[.int .i64 0] 14) 3));rw[<-htb];clear htb hmk;go_wp2_with fail;go_loopw[4](fun i wr=>∃(k e:Nat)(f:Nat->Int),k<=l.length/\e<=12/\i=.int .i64 (k:Int)/\Ext w wr/\wr.heap[K]?=some (.cells (its f) 3 (0,0))/\SH.ic e (fun j=>decide (f j=1)) (l.drop k)=R/\(k=0->e=0)/\(∀j(M:j<l.length),k=j+1->e=SH.nd l[j]/\SH.ok1 l[j]=true))(fun i _=>l.length-(intOf i).toNat);case atStart=>exact⟨0,0,fun _=>0,aL _,by omega,rfl,HE.o,HT.o,HR.o,fun _=>rfl,fun j _ h=>by omega⟩
 case round=>
  obtain⟨k,e,f,hk,he,rfl,hE,hT,hM,hz,EH⟩:=hrel;have Q:=jd hE;have nR:=jd hT;have Zu:=jd hM;have HZ:=jd hz;have HPV:=jd EH;clear hE hT hM hz EH;by_cases hlt:k<l.length;rotate_left
  .have J:=jd (show true=R by rw[<-Zu.o,jg (by omega)];rfl);go_wp2_with fail;go_ret;exact⟨aH (by rw[<-J.o];first|done|rfl),Q.o⟩
  have S:=jd ((SH.wh hlt e (fun j=>decide (f j=1))).symm.trans Zu.o);obtain⟨g,o,vt,vi,vp,vf,rfl,hnd,d⟩:=HV.o.P5 hlt;have xE:=jd (show∀j,k=j+1->∃(I F:Int),wr.cell? ⟨g,o+j*9,none⟩=some (.int .i64 I)/\wr.cell? ⟨g,o+j*9+1,none⟩=some (.int .i64 F)/\0<=F/\F<=12/\(e:Int)=F+(if decide (I=2)||decide (I=6)then 1 else 0)from fun j M=>by
   have hjl:j<l.length:=by omega
   obtain⟨g',o',Mc,vi',vp',vf',he',hnd',O⟩:=HV.o.P5 hjl;injection he' with he';injection he' with N h2 _;subst N h2;obtain⟨h3,h4⟩:=HPV.o j hjl M;obtain⟨h5,h6,-⟩:=SH.uW h4;refine⟨_,_,by have:=Q.o.cell (O 0 _ rfl);rwa[fB]at this,Q.o.cell (O 1 _ rfl),h5,h6,?_⟩;rw[h3];unfold SH.nd SH.holds;split<;>omega);have iF:=jd hnd;have uh:=jd (YB.o l[k] (bK hlt));have HLK:=jd (show l[k]=l[k]from rfl);have uw:=jd (show∀x,l[k]=x->SH.ok1 x=true->∀j(M:j<l.length),k+1=j+1->SH.nd x=SH.nd l[j]/\SH.ok1 l[j]=true from fun x a ho j M hkj=>by
   obtain rfl:k=j:=by omega
   rw[a];exact⟨rfl,ho⟩);obtain⟨x,a⟩:∃x,l[k]=x:=⟨_,rfl⟩;have uw:=jd (uw.o x a);rw[a]at hnd d S iF uh;clear a HLK;obtain⟨At,ct,Ai,ci,Ap,cp,Af,cf,rfl,rfl,rfl,rfl,-⟩:=hnd.shape;have G:=Q.o.cell (d 0 _ rfl);have H:=Q.o.cell (d 1 _ rfl);have d2:=Q.o.cell (d 2 _ rfl);have d3:=Q.o.cell (d 3 _ rfl);have d4:=Q.o.cell (d 4 _ rfl);have d5:=Q.o.cell (d 5 _ rfl);have d6:=Q.o.cell (d 6 _ rfl);have d7:=Q.o.cell (d 7 _ rfl);have d8:=Q.o.cell (d 8 _ rfl);rw[fB]at G;have hbl:=iP _ _ G;have tZ:=jd (fun W(hW:Ext w W)=>SA x _ _ _ _ W (iF.o.ext hW) uh.o.1 uh.o.2);have Mh:=jd (fun(c:Int)W=>Fw c W);clear hnd d;obtain⟨r,E,t,tx,z,B,fo,C,D⟩:=x;dsimp only[Gn,dK]at G H d2 d3 d4 d5 d6 d7 d8 tZ;go_upto_region 6 with fail;obtain⟨nb,hnb⟩:∃nb,nb=wr.heap.size:=⟨_,rfl⟩;have j3:=jd (aB wr (.cells #[.int .i64 r,.int .i64 E,.int .i64 t,.slice At tx.length ct,.slice Ai z.length ci,.slice Ap B.length cp,.slice Af fo.length cf,.bool C,.bool D] 28));have xc:=jd ((aa wr).alloc (.cells #[.int .i64 r,.int .i64 E,.int .i64 t,.slice At tx.length ct,.slice Ai z.length ci,.slice Ap B.length cp,.slice Af fo.length cf,.bool C,.bool D] 28));have HT1:=jd (xc.o.heap nR.o);rw[<-hnb]at j3⊢;have mD:=jd (show K<nb by rw[hnb];exact ag nR.o);have acL:=jd (fun j M=>show∃(I F:Int),(wr.alloc (.cells #[.int .i64 r,.int .i64 E,.int .i64 t,.slice At tx.length ct,.slice Ai z.length ci,.slice Ap B.length cp,.slice Af fo.length cf,.bool C,.bool D] 28)).cell? ⟨g,o+j*9,none⟩=some (.int .i64 I)/\(wr.alloc (.cells #[.int .i64 r,.int .i64 E,.int .i64 t,.slice At tx.length ct,.slice Ai z.length ci,.slice Ap B.length cp,.slice Af fo.length cf,.bool C,.bool D] 28)).cell? ⟨g,o+j*9+1,none⟩=some (.int .i64 F)/\0<=F/\F<=12/\(e:Int)=F+(if decide (I=2)||decide (I=6)then 1 else 0)from by obtain⟨I,F,N,h2,h3⟩:=xE.o j M;exact⟨I,F,xc.o.cell N,xc.o.cell h2,h3⟩);clear G H d2 d3 d4 d5 d6 d7 d8 hbl hnb;generalize wr.alloc (.cells #[.int .i64 r,.int .i64 E,.int .i64 t,.slice At tx.length ct,.slice Ai z.length ci,.slice Ap B.length cp,.slice Af fo.length cf,.bool C,.bool D] 28)=w1 at j3 xc HT1 acL⊢;obtain⟨G,H,d2,d3,d4,d5,d6,d7,d8⟩:=BH j3.o;have eH:=jd (Q.o.trans xc.o);rcases ho:SH.aI ⟨r,E,t,tx,z,B,fo,C,D⟩with _|_;focus
   have FV:=jd (SH.Jm (x:=⟨r,E,t,tx,z,B,fo,C,D⟩) (.inl ho));rw[ho]at tZ;clear ho
  rotate_left;focus
   have HPB:=jd ho;rw[ho]at tZ;clear ho;by_cases q0:0<=E;rotate_left;focus
    have FV:=jd (SH.Jm (x:=⟨r,E,t,tx,z,B,fo,C,D⟩) (.inr (.inl (show E<0 by omega))));have WZ:E<0:=by omega
   rotate_left;focus
    have WZ:¬E<0:=by omega
    by_cases q1:E<=12;rotate_left;focus
     have FV:=jd (SH.Jm (x:=⟨r,E,t,tx,z,B,fo,C,D⟩) (.inr (.inr (.inl (show 12<E by omega)))));have W9:12<E:=by omega
    rotate_left;focus
     have W9:¬12<E:=by omega
     have HHK:=jd (show SH.holds ⟨r,E,t,tx,z,B,fo,C,D⟩=(decide (r=2)||decide (r=6))from rfl);have HHX:=jd (fun W=>Mh.o r W);obtain⟨hh,hhe⟩:∃hh,(decide (r=2)||decide (r=6))=hh:=⟨_,rfl⟩;rw[hhe]at HHX HHK;have HHE:=jd hhe;clear hhe;by_cases q2:hh=true/\12<=E
     .have FV:=jd (SH.Jm (x:=⟨r,E,t,tx,z,B,fo,C,D⟩) (.inr (.inr (.inr ⟨HHK.o.trans q2.1,q2.2⟩))));obtain⟨rfl,q3⟩:=q2;have J:=jd (show false=R by rw[<-S.o,FV.o];rfl);go_wp2_with(first|(go_at_call 44;refine(tZ.o _ eH.o).mono ?_;rintro T w2⟨rfl,a⟩;have jZ:=jd a;have HT2:=jd (a.heap HT1.o);have G:=a.cell G;have H:=a.cell H;have d2:=a.cell d2;have d3:=a.cell d3;have d4:=a.cell d4;have d5:=a.cell d5;have d6:=a.cell d6;have d7:=a.cell d7;have d8:=a.cell d8;clear a)|(go_at_call 42;refine(HHX.o _).mono ?_;rintro T w9⟨rfl,rfl⟩));go_ret;exact⟨aH (by rw[<-J.o];first|done|rfl),eH.o.trans jZ.o⟩
     have nI:=jd q2;have kM:=jd (SH.YD HPB.o q0 q1 (show(SH.holds ⟨r,E,t,tx,z,B,fo,C,D⟩&&decide (12<=E))=false by
      rw[HHK.o];cases hh
      .rfl
      .rw[bR (fun h=>nI.o ⟨rfl,h⟩)];rfl));obtain⟨dd,rfl⟩:∃dd:Nat,E=dd:=⟨E.toNat,by omega⟩;clear q2;have hq:(hh=false)\/(hh=true/\¬(12:Int)<=(dd:Int)):=by
      cases hh
      .exact .inl rfl
      .exact .inr ⟨rfl,fun h=>nI.o ⟨rfl,h⟩⟩
     go_cut[40](fun s wx=>s=.bool false/\Ext w1 wx);case first=>
      have Q1:=jd (show dd<=12 by omega);rcases hq with rfl|⟨rfl,q3⟩
      .go_wp2_with(first|(go_at_call 44;refine(tZ.o _ eH.o).mono ?_;rintro T w2⟨rfl,a⟩;have jZ:=jd a;have G:=a.cell G;have H:=a.cell H;clear a)|(go_at_call 42;refine(HHX.o _).mono ?_;rintro T w9⟨rfl,rfl⟩));go_meet;exact⟨by have:=Q1.o;rw[bR (show¬(dd:Int)<0 by omega),bR (show¬(12:Int)<dd by omega)];rfl,jZ.o⟩
      .have Q3:=jd (show dd<12 by omega);go_wp2_with(first|(go_at_call 44;refine(tZ.o _ eH.o).mono ?_;rintro T w2⟨rfl,a⟩;have jZ:=jd a;have G:=a.cell G;have H:=a.cell H;clear a)|(go_at_call 42;refine(HHX.o _).mono ?_;rintro T w9⟨rfl,rfl⟩));go_meet;exact⟨by have:=Q1.o;have:=Q3.o;rw[bR (show¬(dd:Int)<0 by omega),bR (show¬(12:Int)<dd by omega),bR (show¬(12:Int)<=dd by omega)];rfl,jZ.o⟩
     case rest=>
      obtain⟨rfl,a⟩:=hcut;have jZ:=jd (eH.o.trans a);have HT2:=jd (a.heap HT1.o);have HB2:=jd (a.heap j3.o);have aem:=jd (fun j M=>show∃(I F:Int),wc.cell? ⟨g,o+j*9,none⟩=some (.int .i64 I)/\wc.cell? ⟨g,o+j*9+1,none⟩=some (.int .i64 F)/\0<=F/\F<=12/\(e:Int)=F+(if decide (I=2)||decide (I=6)then 1 else 0)from by obtain⟨I,F,N,h2,h3⟩:=acL.o j M;exact⟨I,F,a.cell N,a.cell h2,h3⟩);clear a G H d2 d3 d4 d5 d6 d7 d8;obtain⟨G,H,d2,d3,d4,d5,d6,d7,d8⟩:=BH HB2.o;go_upto_region 8 with fail;obtain⟨bd,hbd⟩:∃bd,decide (e<dd)=bd:=⟨_,rfl⟩;have rJ:=jd hbd;clear hbd;go_cut[84](fun s wy=>s=.bool bd/\Ext wc wy);case first=>
       by_cases X:k=0;focus
        have he0:=HZ.o X;subst X;by_cases hd0:dd=0;focus
         subst hd0;obtain rfl:bd=false:=by rw[<-rJ.o];simp
         go_quiet(fail)
        rotate_left;focus
         obtain rfl:bd=true:=by rw[<-rJ.o];simp;omega
         have b1:((dd:Int)!=0)=true:=by simp;omega
         have b2:(dd !=0)=true:=by simp;omega
         go_quiet(fail)
        rotate_left
       rotate_left 2;focus
        obtain⟨j,rfl⟩:∃j,k=j+1:=⟨k-1,by omega⟩;obtain⟨I,F,c1,c2,p0,p1,pe⟩:=aem.o j rfl;have PE:=jd pe;have s1:IntKind.i64.wrap ((j:Int)+1-1)=(j:Int):=by rw[jA _ (by omega)];omega
        have s2:IntKind.i64.wrap (F+1)=F+1:=jA _ (by omega);have jl:(j:Int)<l.length:=by omega
        have j0:(0:Int)<(j:Int)+1:=by omega
        have j1:((j:Int)+1==0)=false:=by simp;omega
        obtain⟨ph,hph⟩:∃ph,(decide (I=2)||decide (I=6))=ph:=⟨_,rfl⟩;have HHQ:=jd (fun m=>(show Calls Tryz.prog 42 #[.int .i64 I] (wc.drewN m) (fun e w''=>e=.returned (.bool ph)/\∃q,w''=wc.drewN q)from(Mh.o I _).mono (by rintro T w9⟨rfl,rfl⟩;exact⟨by rw[hph],m,rfl⟩)));rw[hph]at PE;have L:=PE.o;clear pe hph;by_cases g1:F+1<(dd:Int);focus
         obtain rfl:bd=true:=by rw[<-rJ.o];cases ph<;>simp at L⊢<;>omega
         clear L;go_quiet(fail)
        rotate_left;focus
         by_cases g2:F<(dd:Int);focus
          cases ph;focus
           obtain rfl:bd=true:=by rw[<-rJ.o];simp at L⊢;omega
           clear L;go_quiet((go_at_call 42;exact HHQ.o _))
          rotate_left;focus
           obtain rfl:bd=false:=by rw[<-rJ.o];simp at L⊢;omega
           clear L;go_quiet((go_at_call 42;exact HHQ.o _))
          rotate_left
         rotate_left 2;focus
          obtain rfl:bd=false:=by rw[<-rJ.o];cases ph<;>simp at L⊢<;>omega
          clear L;go_quiet(fail)
         rotate_left
       rotate_left 4;all_goals
        go_wp2_with fail;go_meet;exact⟨rfl,(aa _).drewN _⟩
      case rest=>
       obtain⟨rfl,a⟩:=hcut;clear G H d2 d3 d4 d5 d6 d7 d8;have eZ:=jd (jZ.o.trans a);have HT3:=jd (a.heap HT2.o);have HB3:=jd (a.heap HB2.o);clear a;cases bd;rotate_left
       .have J:=jd (show false=R by rw[<-S.o];have N:=rJ.o;simp only[jf]at N;simp[show¬(dd:Int)<=(e:Int)by omega]);go_wp2_with fail;go_ret;exact⟨aH (by rw[<-J.o];first|done|rfl),eZ.o⟩
       have hde:dd<=e:=by have N:=rJ.o;simp only[Er]at N;omega
       have d12:dd<=12:=by omega
       have NV:=jd (fun(h3:(decide (r=0)&&decide (f dd=1))=false)=>show SH.ic (SH.nd ⟨r,(dd:Int),t,tx,z,B,fo,C,D⟩) (SH.nf ⟨r,(dd:Int),t,tx,z,B,fo,C,D⟩ (fun j=>decide (f j=1))) (l.drop (k+1))=R from by rw[<-S.o];show _=(SH.ok1 ⟨r,(dd:Int),t,tx,z,B,fo,C,D⟩&&decide ((dd:Int)<=(e:Int))&&!(decide (r=0)&&decide (f ((dd:Int)).toNat=1))&&_);rw[kM.o,bJ (show(dd:Int)<=(e:Int)by omega),ko,h3];rfl);have HTN:=jd (show K≠nb by have:=mD.o;omega);have xG:=SH.Qy kM.o;have Xb:=jd (show dd<=12 from d12);have acM:=jd (uw.o kM.o);obtain⟨G,H⟩:=WQ HB3.o;have U:=cy dd HT3.o;rw[mE f dd (by omega)]at U;have fr:=fq dd HT3.o;have i14:(dd:Int)<14:=by omega
       rcases X:(r==0)with _|_
       .have zW:=jd (show decide (r=0)=false by simpa using X);have Hl:=jd (show(decide (r=0)&&decide (f dd=1))=false by rw[zW.o];rfl);go_upto_region 13 with fail;have CJ:=jd (Ext.set (p:=⟨K,dd,none⟩) eZ.o lY.o (.int .i64 2));have Y:=jd (aP (o:=dd) (u:=.int .i64 2) HT3.o);rw[nZ]at Y;have BN:=jd ((pq (w:=wc) (o:=dd) (u:=.int .i64 2) HTN.o.symm).trans HB3.o);clear G H U fr;generalize wc.setCell ⟨K,dd,none⟩ (.int .i64 2)=w4 at CJ Y BN⊢;obtain⟨G,H⟩:=WQ BN.o;have fr:=fq dd Y.o;have U:=cy dd Y.o;rw[mE _ dd (by omega)]at U;go_upto_region 15 with fail;have zN:=CJ;have X9:=Y;have OP:=BN;clear U fr;obtain⟨w5,hw5⟩:∃w5,w4=w5:=⟨_,rfl⟩;subst hw5;obtain⟨V,YE⟩:∃V:Nat->Int,V=(fun k=>if k=dd then 2 else f k):=⟨_,rfl⟩;rw[<-YE]at X9;have Z:=jd (show V dd=2/\∀j,j≠dd->V j=f j from⟨by rw[YE];simp,fun j M=>by rw[YE];simp[M]⟩);clear YE;go_wp2_with fail;go_loopw[6](fun i wz=>∃(j:Nat)(q:Nat->Int),dd+1<=j/\j<=14/\i=.int .i64 (j:Int)/\Ext w wz/\wz.heap[K]?=some (.cells (its q) 3 (0,0))/\(∀m,m<=dd->q m=V m)/\(∀m,dd<m->m<j->q m=0))(fun i _=>14-(intOf i).toNat);case atStart=>exact⟨dd+1,V,by omega,by omega,by go_num,zN.o,X9.o,fun _ _=>rfl,fun m N h2=>by omega⟩
        case round=>
         obtain⟨j,q,j1,j2,rfl,hE,hT,hq1,hq2⟩:=hrel;have OL:=jd hE;have YF:=jd hT;have EZ:=jd hq1;have nI:=jd hq2;clear hE hT hq1 hq2;by_cases j14:j<14
         .have aaL:(j:Int)<14:=by omega
          have fr:=fq j YF.o;have U:=cy j YF.o;rw[mE _ j j14]at U;have JJ:=jd (show dd+1<=j/\j<14 from⟨j1,j14⟩);go_wp2_with fail;go_roundw;case rel=>
           have h9:=aP (o:=j) (u:=.int .i64 0) YF.o;rw[nZ]at h9;have M:=JJ.o;exact⟨j+1,_,by omega,by omega,by go_num,Ext.set (p:=⟨K,j,none⟩) OL.o lY.o (.int .i64 0),h9,fun m hm=>by rw[ae (by omega)];exact EZ.o m hm,fun m N h2=>by
            by_cases T:m=j
            .rw[av T]
            .rw[ae T];exact nI.o m N (by omega)⟩
          case measure=>have M:=JJ.o;simp[intOf];omega
         .have aaL:¬(j:Int)<14:=by omega
          have HJE:=jd (show j=14 by omega);go_wp2_with fail;go_roundw;case rel=>
           have hd:=Xb.o;refine⟨k+1,SH.nd ⟨r,(dd:Int),t,tx,z,B,fo,C,D⟩,q,by omega,xG,by go_num,OL.o,YF.o,?_,fun h=>by omega,fun j9 hj9 hk9=>acM.o j9 hj9 hk9⟩;refine(SH.yn _ _ _ _ fun m hm=>?_).trans (NV.o Hl.o);have hm2:m<=dd+1:=by
            have:SH.nd ⟨r,(dd:Int),t,tx,z,B,fo,C,D⟩<=dd+1:=by unfold SH.nd;split<;>simp
            omega
           unfold SH.nf;rw[show((⟨r,(dd:Int),t,tx,z,B,fo,C,D⟩:SH.dC).deep).toNat=dd from ko dd];show decide (q m=1)=if SH.holds ⟨r,(dd:Int),t,tx,z,B,fo,C,D⟩=true/\m=dd+1 then false else if m=dd then decide (r=0)else decide (f m=1);by_cases e1:m=dd+1
           .rw[e1,nI.o (dd+1) (by omega) (by have:=HJE.o;omega)];split
            .rfl
            .rename_i hn;exfalso;apply hn;refine⟨?_,rfl⟩;rcases I9:SH.holds ⟨r,(dd:Int),t,tx,z,B,fo,C,D⟩with _|_
             .rw[SH.nd,I9]at hm;have:((⟨r,(dd:Int),t,tx,z,B,fo,C,D⟩:SH.dC).deep).toNat=dd:=ko dd;simp at hm;omega
             .rfl
           .rw[ae (fun h=>e1 h.2),EZ.o m (by omega)];by_cases e2:m=dd
            .rw[av e2,e2,Z.o.1,zW.o];rfl
            .rw[ae e2,Z.o.2 m e2]
          case measure=>simp[intOf];omega
       .have zW:=jd (show decide (r=0)=true by simpa using X);rcases ZC:(f dd==1)with _|_
        .have Hl:=jd (show(decide (r=0)&&decide (f dd=1))=false by
          have:¬f dd=1:=by simpa using ZC
          rw[bR this,Bool.and_false]);go_upto_region 13 with fail;have CJ:=jd (Ext.set (p:=⟨K,dd,none⟩) eZ.o lY.o (.int .i64 2));have Y:=jd (aP (o:=dd) (u:=.int .i64 2) HT3.o);rw[nZ]at Y;have BN:=jd ((pq (w:=wc) (o:=dd) (u:=.int .i64 2) HTN.o.symm).trans HB3.o);clear G H U fr;generalize wc.setCell ⟨K,dd,none⟩ (.int .i64 2)=w4 at CJ Y BN⊢;obtain⟨G,H⟩:=WQ BN.o;have fr:=fq dd Y.o;have U:=cy dd Y.o;rw[mE _ dd (by omega)]at U;go_upto_region 15 with fail;have zN:=jd (Ext.set (p:=⟨K,dd,none⟩) CJ.o lY.o (.int .i64 1));have X9:=jd (aP (o:=dd) (u:=.int .i64 1) Y.o);rw[nZ]at X9;have OP:=jd ((pq (w:=w4) (o:=dd) (u:=.int .i64 1) HTN.o.symm).trans BN.o);clear G H U fr;generalize w4.setCell ⟨K,dd,none⟩ (.int .i64 1)=w5 at zN X9 OP⊢;obtain⟨G,H⟩:=WQ OP.o;obtain⟨V,YE⟩:∃V:Nat->Int,V=(fun k=>if k=dd then 1 else if k=dd then 2 else f k):=⟨_,rfl⟩;rw[<-YE]at X9;have Z:=jd (show V dd=1/\∀j,j≠dd->V j=f j from⟨by rw[YE];simp,fun j M=>by rw[YE];simp[M]⟩);clear YE;go_wp2_with fail;go_loopw[6](fun i wz=>∃(j:Nat)(q:Nat->Int),dd+1<=j/\j<=14/\i=.int .i64 (j:Int)/\Ext w wz/\wz.heap[K]?=some (.cells (its q) 3 (0,0))/\(∀m,m<=dd->q m=V m)/\(∀m,dd<m->m<j->q m=0))(fun i _=>14-(intOf i).toNat);case atStart=>exact⟨dd+1,V,by omega,by omega,by go_num,zN.o,X9.o,fun _ _=>rfl,fun m N h2=>by omega⟩
         case round=>
          obtain⟨j,q,j1,j2,rfl,hE,hT,hq1,hq2⟩:=hrel;have OL:=jd hE;have YF:=jd hT;have EZ:=jd hq1;have nI:=jd hq2;clear hE hT hq1 hq2;by_cases j14:j<14
          .have aaL:(j:Int)<14:=by omega
           have fr:=fq j YF.o;have U:=cy j YF.o;rw[mE _ j j14]at U;have JJ:=jd (show dd+1<=j/\j<14 from⟨j1,j14⟩);go_wp2_with fail;go_roundw;case rel=>
            have h9:=aP (o:=j) (u:=.int .i64 0) YF.o;rw[nZ]at h9;have M:=JJ.o;exact⟨j+1,_,by omega,by omega,by go_num,Ext.set (p:=⟨K,j,none⟩) OL.o lY.o (.int .i64 0),h9,fun m hm=>by rw[ae (by omega)];exact EZ.o m hm,fun m N h2=>by
             by_cases T:m=j
             .rw[av T]
             .rw[ae T];exact nI.o m N (by omega)⟩
           case measure=>have M:=JJ.o;simp[intOf];omega
          .have aaL:¬(j:Int)<14:=by omega
           have HJE:=jd (show j=14 by omega);go_wp2_with fail;go_roundw;case rel=>
            have hd:=Xb.o;refine⟨k+1,SH.nd ⟨r,(dd:Int),t,tx,z,B,fo,C,D⟩,q,by omega,xG,by go_num,OL.o,YF.o,?_,fun h=>by omega,fun j9 hj9 hk9=>acM.o j9 hj9 hk9⟩;refine(SH.yn _ _ _ _ fun m hm=>?_).trans (NV.o Hl.o);have hm2:m<=dd+1:=by
             have:SH.nd ⟨r,(dd:Int),t,tx,z,B,fo,C,D⟩<=dd+1:=by unfold SH.nd;split<;>simp
             omega
            unfold SH.nf;rw[show((⟨r,(dd:Int),t,tx,z,B,fo,C,D⟩:SH.dC).deep).toNat=dd from ko dd];show decide (q m=1)=if SH.holds ⟨r,(dd:Int),t,tx,z,B,fo,C,D⟩=true/\m=dd+1 then false else if m=dd then decide (r=0)else decide (f m=1);by_cases e1:m=dd+1
            .rw[e1,nI.o (dd+1) (by omega) (by have:=HJE.o;omega)];split
             .rfl
             .rename_i hn;exfalso;apply hn;refine⟨?_,rfl⟩;rcases I9:SH.holds ⟨r,(dd:Int),t,tx,z,B,fo,C,D⟩with _|_
              .rw[SH.nd,I9]at hm;have:((⟨r,(dd:Int),t,tx,z,B,fo,C,D⟩:SH.dC).deep).toNat=dd:=ko dd;simp at hm;omega
              .rfl
            .rw[ae (fun h=>e1 h.2),EZ.o m (by omega)];by_cases e2:m=dd
             .rw[av e2,e2,Z.o.1,zW.o];rfl
             .rw[ae e2,Z.o.2 m e2]
           case measure=>simp[intOf];omega
        .have J:=jd (show false=R by rw[<-S.o];show _=(SH.ok1 ⟨r,(dd:Int),t,tx,z,B,fo,C,D⟩&&decide ((dd:Int)<=(e:Int))&&!(decide (r=0)&&decide (f ((dd:Int)).toNat=1))&&_);rw[ko,zW.o,bJ (show f dd=1 by simpa using ZC)];simp);go_wp2_with fail;go_ret;exact⟨aH (by rw[<-J.o];first|done|rfl),eZ.o⟩
  all_goals
   have J:=jd (show false=R by rw[<-S.o,FV.o];rfl);go_wp2_with(go_at_call 44;refine(tZ.o _ eH.o).mono ?_;rintro T w2⟨rfl,a⟩;have jZ:=jd a;have HT2:=jd (a.heap HT1.o);have G:=a.cell G;have H:=a.cell H;have d2:=a.cell d2;have d3:=a.cell d3;have d4:=a.cell d4;have d5:=a.cell d5;have d6:=a.cell d6;have d7:=a.cell d7;have d8:=a.cell d8;clear a);go_ret;exact⟨aH (by rw[<-J.o];first|done|rfl),eH.o.trans jZ.o⟩
end Go.Proofs.YtcogknbbbjnaiaaGreatDoor
