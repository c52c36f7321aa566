/- For ShowTells: what the texts XShPk XShPl of wip/tpl say. -/
import Derived.Test.YtcogknbbbjnaiaaGreatDoorAt
set_option maxRecDepth 100000
set_option maxHeartbeats 16000000
namespace Go.Proofs.YtcogknbbbjnaiaaGreatDoor
open Go.RowKit
theorem LQ(s:List Int)(vs:Value)(w:World)(hs:aT 21 1 Cc 0 w vs s)(hsl:s.length<=300):Calls Tryz.prog 4 #[vs] w (aeA w):=by
 have HS0:=jd (fun W(V:Ext w W)=>hs.Fz (au V));obtain⟨As,B,rfl,hlx,hcx⟩:=hs.form;have Y2:=jd (fun W(V:Ext w W)=>OT s _ W (HS0.o W V).mV hsl);clear hs;obtain⟨fb,IA⟩:∃fb,fb=w.heap.size:=⟨_,rfl⟩;have HFL:=jd (jG IA.symm);have Vg:=jd (aB w (.cells #[.int .i64 0,.int .i64 0] 31));rw[<-IA]at Vg;go_enter Tryz.func4,Tryz.ntmps4;go_upto_region 2 with(first|(go_at_call 9;refine(Y2.o _ ((aa w).alloc _)).mono ?_;rintro e w2⟨hE2,v2,c,a,rfl⟩;have HE2:=jd (((aa w).alloc _).trans hE2);have HF2:=jd (hE2.heap Vg.o);clear hE2)|fail);have sZ:=jd (HE2.o.trans ((aa w2).alloc (.cells #[.int .i64 c,.int .i64 a] 31)));have AQ:=jd (((aa w2).alloc (.cells #[.int .i64 c,.int .i64 a] 31)).heap HF2.o);have eZ:=jd (aB w2 (.cells #[.int .i64 c,.int .i64 a] 31));obtain⟨xf,hxf⟩:∃xf,xf=w2.heap.size:=⟨_,rfl⟩;rw[<-hxf]at eZ⊢;rw[<-IA];have hne:fb≠xf:=by have:=ag HF2.o;omega
 clear hxf IA;generalize w2.alloc (.cells #[.int .i64 c,.int .i64 a] 31)=C at sZ AQ eZ⊢;obtain⟨x0,x1⟩:=WQ eZ.o;by_cases hc:c=0;rotate_left
 .have hb:(c !=0)=true:=by simpa using hc
  obtain⟨r0,r1,f0,f1⟩:=PW AQ.o;go_wp2_with fail;go_region;go_wp2_with fail;refine bC (v:=.tuple #[.slice none 0 0,.agg #[.int .i64 c,.int .i64 a]]) (by simp[results,Tryz.results4,go_sem,r0,r1]) rfl ?_;exact⟨((sZ.o.set (p:=⟨fb,0,none⟩) HFL.o _).set (p:=⟨fb,1,none⟩) HFL.o _).drew,_,[],_,_,rfl,nz.eU,(fun x hx=>by cases hx),aL _⟩
 subst hc;have HS:=jd (fun W(V:Ext C W)=>HS0.o W (sZ.o.trans V));have HAT:=jd (fun(j:Int)W(V:Ext C W)=>uV s _ j W (HS.o W V).mV);obtain⟨H,Y⟩:∃H,H=C.heap.size:=⟨_,rfl⟩;have TU:=jd (show Rd C H (.slice As s.length B) (.slice none 0 0) (.slice none 0 0) [] [] (C.alloc (.cells #[.slice As s.length B,.slice none 0 0,.slice none 0 0] 48))from⟨(aa C).alloc _,jG Y.symm,by rw[Y];exact aB C _,dO,dO⟩);have HFR:=jd (show fb<H by rw[Y];exact ag AQ.o);go_upto_region 5 with fail;rw[<-Y];clear Y x0 x1;generalize C.alloc (.cells #[.slice As s.length B,.slice none 0 0,.slice none 0 0] 48)=w4 at TU⊢;go_wp2_with fail;go_loopw[7](fun x wr=>∃(k:Nat)(l:List SH.dC)(op:List (Int×Int))(vl vo:Value),k<=s.length/\x=.int .i64 (k:Int)/\Rd C H (.slice As s.length B) vl vo l op wr/\l.length<=k/\(∀x∈l,JG x)/\Ops s l.length op)(fun x _=>s.length-(intOf x).toNat);case atStart=>exact⟨0,[],[],_,_,aL _,rfl,TU.o,az _,(fun x hx=>by cases hx),by simp,fun p hp=>by cases hp⟩
 case round=>
  obtain⟨k,l,op,vl,vo,hk,rfl,hr,hlk,hok,hop⟩:=hrel;have A:=jd hr;have kM:=jd hok;have Dm:=jd hop;have acZ:=hop.1;obtain⟨Al,cl,rfl,-⟩:=hr.nodes.form;obtain⟨Ao,co,rfl,hco,-⟩:=hr.opn.form;have c2:=hr.c2;have hrl:=ag hr.box;clear hr hok hop TU;by_cases K:k<s.length;rotate_left
  .go_wp2_with fail;go_loopw[12](fun z wy=>∃(q:Nat)(l2:List SH.dC)(vl2:Value),z=.int .i64 ((q:Int)-1)/\q<=op.length/\Rd C H (.slice As s.length B) vl2 (.slice Ao op.length co) l2 op wy/\l2.length=l.length/\∀x∈l2,JG x)(fun z _=>(intOf z+1).toNat);case atStart=>exact⟨op.length,l,_,rfl,az _,A.o,rfl,kM.o⟩
   case round=>
    obtain⟨q,l2,vl2,rfl,Z,hr2,N,hok2⟩:=hrel;have HR2:=jd hr2;have Og:=jd hok2;obtain⟨Al2,cl2,rfl,-⟩:=hr2.nodes.form;have c1:=hr2.c1;have c2:=hr2.c2;have NW:=jd N;have hl2:l2.length<=300:=by omega
    clear hr2 hok2 A N;by_cases hq0:q=0
    .subst hq0;have hz:¬(0:Int)<=((0:Nat):Int)-1:=by omega
     go_wp2_with(first|(go_at_call 13;refine(OZ l2 _ _ HR2.o.nodes.sl.aen Og.o (by omega)).mono ?_;rintro e w9⟨v9,l9,rfl,L,hs9,hb9,hn9⟩;have wN:=jd (HR2.o.ext.trans L);have HF9:=jd (wN.o.heap AQ.o);have HS9:=jd hs9;obtain⟨r0,r1,f0,f1⟩:=PW HF9.o;clear L hs9)|fail);refine bC (v:=.tuple #[v9,.agg #[.int .i64 0,.int .i64 0]]) (by simp[results,Tryz.results4,go_sem,r0,r1]) rfl ?_;have hck:CK w9 ((w9.setCell ⟨fb,0,none⟩ (.int .i64 0)).setCell ⟨fb,1,none⟩ (.int .i64 0)):=(CK.self r0).trans (CK.self (CK.self r0 _ _ r1));exact⟨((sZ.o.trans wN.o).set (p:=⟨fb,0,none⟩) HFL.o _).set (p:=⟨fb,1,none⟩) HFL.o _,v9,l9,_,_,rfl,HS9.o.ck hck,hb9,hn9⟩
    obtain⟨X,rfl⟩:∃X,q=X+1:=⟨q-1,by omega⟩;have Xe:X<op.length:=by omega
    have D:(0:Int)<=((X+1:Nat):Int)-1:=by omega
    have hz2:((X+1:Nat):Int)-1=(X:Int):=by omega
    rw[hz2];have hz3:(0:Int)<=(X:Int):=by omega
    clear D hz2;obtain⟨i,j,m,hp,hij,hjl,hsj,hmn⟩:=Dm.o.2 op[X] (bK Xe);obtain⟨go_,cur,cs,rfl,hgb,f,hcs,-,d,-⟩:=HR2.o.opn.Xd Xe;unfold C2 at hcs;rw[hp]at hcs;subst hcs;have o0:=(cy (X*2+0) f).trans (d 0 _ rfl);have o1:=(cy (X*2+1) f).trans (d 1 _ rfl);rw[fB]at o0;dsimp only at o0 o1;have HSJ:=jd hsj;have hm2:m<l2.length:=by have:=NW.o;omega
    clear hp f d hsj hq0 hmn;go_upto_region 26 with fail;go_quiet(fail);generalize hwx:World.drewN wr _=wx;have O:=jd (HR2.o.aj (hwx▸(aa wr).drewN _));clear hwx o0 o1 c1 c2;go_wp2_with fail;go_loopw[15](fun t wy=>∃I:Nat,i<=I/\I<=j/\t=.int .i64 (I:Int)/\wy=wx)(fun t _=>s.length-(intOf t).toNat);case atStart=>exact⟨i,az _,by omega,rfl,rfl⟩
    case round=>
     obtain⟨I,hit,htj,rfl,rfl⟩:=hrel;have htl:I<s.length:=by omega
     obtain⟨b,o,rfl,hct⟩:=(HS.o _ O.o.ext).mV.at_ htl;by_cases xZ:s[I]=58;rotate_left
     .have afB:I<j:=by
       rcases fC I j with h|h
       .exact h
       .exfalso;obtain rfl:I=j:=by omega
        have M:=HSJ.o;rw[aU htl]at M;injection M with M;exact xZ M
      have b58:(s[I]!=58)=true:=by simpa using xZ
      generalize s[I]=xx at hct b58;clear xZ;go_wp2_with fail;go_roundw;case rel=>exact⟨I+1,by omega,by omega,by go_num,by first|rfl|trivial⟩
      case measure=>simp[intOf];omega
     rw[xZ]at hct;clear xZ;obtain⟨g,cur,cs,Q,hgb,f,⟨vt,vi,vp,vf,rfl,hnd⟩,-,d,-⟩:=O.o.nodes.Xd hm2;subst Q;obtain⟨At,ct,Ai,ci,Ap,cp,Af,cf,rfl,rfl,rfl,rfl⟩:=hnd.shape;have n0:=(cy (m*9+0) f).trans (d 0 _ rfl);have n1:=(cy (m*9+1) f).trans (d 1 _ rfl);have n2:=(cy (m*9+2) f).trans (d 2 _ rfl);have n3:=(cy (m*9+3) f).trans (d 3 _ rfl);have n4:=(cy (m*9+4) f).trans (d 4 _ rfl);have n5:=(cy (m*9+5) f).trans (d 5 _ rfl);have n6:=(cy (m*9+6) f).trans (d 6 _ rfl);have n7:=(cy (m*9+7) f).trans (d 7 _ rfl);have n8:=(cy (m*9+8) f).trans (d 8 _ rfl);rw[fB]at n0;have e0:=fq (m*9) f;have e1:=fq (m*9+1) f;have e2:=fq (m*9+2) f;have e3:=fq (m*9+3) f;have e4:=fq (m*9+4) f;have e5:=fq (m*9+5) f;have e6:=fq (m*9+6) f;have e7:=fq (m*9+7) f;have e8:=fq (m*9+8) f;have hgl:=ag f;have HGH:=jd f;have HGB:=jd hgb;have hmi:(m:Int)<l2.length:=by omega
     have c1:=O.o.c1;have aa9:=(Og.o l2[m] (bK hm2)).ok.deep;obtain⟨R,ht1⟩:∃R,R=I+1:=⟨_,rfl⟩;have ew1:IntKind.i64.wrap ((I:Int)+1)=(R:Int):=by rw[ht1];exact jA _ (by omega)
     have afC:i<R:=by omega
     have afD:R<=s.length:=by omega
     clear ht1;obtain⟨i0,J,-,D,-⟩:=fD gQ;have ac0:=fun W=>(show(Instr.slice 24 (.slice (some ⟨b,o,none⟩) s.length B) (some (.int .i64 (i:Int))) (some (.int .i64 (R:Int))) none).run Tryz.prog W=.ok (.slice (iD (some ⟨b,o,none⟩) B i i0.size) (R-i) (B-i)) W from mK (P:=Tryz.prog) eT J (some ⟨b,o,none⟩) (n:=s.length) (c:=B) (k:=i) (m:=R) (by omega) (by omega) W);simp only[D]at ac0;clear J D d f hgb;go_upto_region 30 with fail;go_cut[](fun wz=>∃l3:List SH.dC,Rd C H (.slice (some ⟨b,o,none⟩) s.length B) (.slice (some ⟨g,0,none⟩) l2.length cl2) (.slice (some ⟨go_,0,none⟩) op.length co) l3 op wz/\l3.length=l2.length/\∀x∈l3,JG x);case first=>
      have ac1:=(wC.txt 0 ((HS.o _ O.o.ext).both (a:=i) (b:=R) (by omega) (by omega)));have hwr:∀W,Ext wr W->∃l3:List SH.dC,Rd C H (.slice (some ⟨b,o,none⟩) s.length B) (.slice (some ⟨g,0,none⟩) l2.length cl2) (.slice (some ⟨go_,0,none⟩) op.length co) l3 op ((((((((((W.setCell ⟨g,m*9,none⟩ (.int .i64 0)).setCell ⟨g,m*9+1,none⟩ (.int .i64 l2[m].deep)).setCell ⟨g,m*9+2,none⟩ (.int .i64 0)).setCell ⟨g,m*9+3,none⟩ (.slice (iD (some ⟨b,o,none⟩) B i 1) (R-i) (B-i))).setCell ⟨g,m*9+4,none⟩ (.slice none 0 0)).setCell ⟨g,m*9+5,none⟩ (.slice none 0 0)).setCell ⟨g,m*9+6,none⟩ (.slice none 0 0)).setCell ⟨g,m*9+7,none⟩ (.bool false)).setCell ⟨g,m*9+8,none⟩ (.bool false)))/\l3.length=l2.length/\∀x∈l3,JG x:=fun W V=>(by
       have hxW:wC W ⟨0,l2[m].deep,0,((s.drop i).take (R-i)),[],[],[],false,false⟩ _ _ _ _:=aez (ac1.keep (au V));refine⟨l2.set m ⟨0,l2[m].deep,0,((s.drop i).take (R-i)),[],[],[],false,false⟩,Rd.QD (O.o.aj V) ?_ (V.heap HGH.o) HGB.o (ay.acX ((O.o.nodes).kt V) hm2 ⟨0,l2[m].deep,0,((s.drop i).take (R-i)),[],[],[],false,false⟩ _ _ _ _ hxW),by rw[gK],fun x hx=>?_⟩
       .exact(((((((((aJ _ _).set _).set _).set _).set _).set _).set _).set _).set _).set _
       .rcases List.mem_or_eq_of_mem_set hx with M|M
        .exact Og.o x M
        .subst M;exact⟨⟨aa9,by simp;omega,by simp[FB,SH.tot,FM.nH];omega⟩,fun _ h=>by have:=congrArg List.length h;simp at this;omega⟩);have HWR:=jd hwr;clear hwr ac1;go_region;all_goals
       go_wp2_with fail;go_meet;obtain⟨l3,q1,q2,q3⟩:=HWR.o wr (aa _);exact⟨l3,q1.aj ((aa _).drew),q2,q3⟩
     case rest=>
      obtain⟨l3,hr4,hl3,ac2⟩:=hcut;have HR4:=jd hr4;have ac3:=jd ac2;have rE:=jd hl3;clear hr4 ac2 hl3 n0 n1 n2 n3 n4 n5 n6 n7 n8 e0 e1 e2 e3 e4 e5 e6 e7 e8 c1 hgl ac0 hct;go_wp2_with fail;go_loopw[16](fun t wy=>∃(I:Nat)(l4:List SH.dC),m+1<=I/\I<=l2.length/\t=.int .i64 (I:Int)/\Rd C H (.slice (some ⟨b,o,none⟩) s.length B) (.slice (some ⟨g,0,none⟩) l2.length cl2) (.slice (some ⟨go_,0,none⟩) op.length co) l4 op wy/\l4.length=l2.length/\∀x∈l4,JG x)(fun t _=>l2.length-(intOf t).toNat);case atStart=>exact⟨m+1,l3,az _,hm2,by go_num,HR4.o,rE.o,ac3.o⟩
      case round=>
       obtain⟨u,l4,hmu,UT,rfl,S,hl4,IL⟩:=hrel;have HR5:=jd S;have Ls:=jd IL;have Na:=jd hl4;have c1:=S.c1;clear HR4 ac3 rE IL;have hm4:m<l4.length:=by omega
       obtain⟨g',cur',cs,Q,hgb,f,⟨Mc,vi',vp',vf',rfl,-⟩,-,d,-⟩:=S.nodes.Xd hm4;injection Q with Q;injection Q with Q _ _;subst Q;have nm0:=(cy (m*9+1) f).trans (d 1 _ rfl);have hgl:=ag f;have afE:=jd f;clear d f hgb;have aa9:=(Ls.o l4[m] (bK hm4)).ok.deep;obtain⟨dm,hdm⟩:∃dm,l4[m].deep=dm:=⟨_,rfl⟩;have nm:wr.cell? ⟨g,m*9+1,none⟩=some (.int .i64 dm):=by rw[<-hdm];exact nm0
       rw[hdm]at aa9;clear hdm nm0;by_cases afF:u<l2.length
       .have hu4:u<l4.length:=by omega
        have aeB:(u:Int)<l2.length:=by omega
        obtain⟨g',Gg,cs,Q,-,f,⟨Mc,vi',vp',vf',rfl,-⟩,-,d,-⟩:=S.nodes.Xd hu4;injection Q with Q;injection Q with Q _ _;subst Q;have nu0:=(cy (u*9+1) f).trans (d 1 _ rfl);have fu:=fq (u*9+1) f;have aeC:=jd f;clear d f;have aba:=Ls.o l4[u] (bK hu4);have aeD:=aba.ok.deep;have aeE:=jd aba;obtain⟨du,hdu⟩:∃du,l4[u].deep=du:=⟨_,rfl⟩;have nu:wr.cell? ⟨g,u*9+1,none⟩=some (.int .i64 du):=by rw[<-hdu];exact nu0
        rw[hdu]at aeD;have HDU:=jd hdu;clear hdu S hl4 aba nu0;by_cases afG:dm<du
        .go_upto_region 32 with fail;go_quiet(fail);generalize hwx:World.drewN wr _=wx;have EL:Ext wr wx:=hwx▸(aa wr).drewN _;have HR6:=jd (HR5.o.aj EL);have abb:=jd (EL.heap aeC.o);have c1:=HR6.o.c1;have nu:=EL.cell nu;have fu:=fq (u*9+1) abb.o;have hgl:=ag abb.o;clear hwx EL nm;go_wp2_with fail;go_roundw;case rel=>
          exact⟨u+1,l4.set u {l4[u]with deep:=du-1},by omega,by omega,by go_num,Rd.QD HR6.o ((aJ _ _).set _) abb.o HGB.o (ay.xH (y0:=l4[u]) (by rw[List.set_getElem_self];exact HR6.o.nodes) hu4 1 (.int .i64 (du-1)) _ (by decide) (fun _ _ _ _ _ _ e=>⟨_,_,_,_,rfl,e.text,e.items,e.pat,e.forms⟩)),by rw[gK];exact Na.o,fun x hx=>by
           rcases List.mem_or_eq_of_mem_set hx with M|M
           .exact Ls.o x M
           .subst M;exact aeE.o.Wp (by omega) (by omega)⟩
         case measure=>simp[intOf];omega
        .go_upto_region 32 with fail;go_quiet(fail);go_wp2_with fail;go_roundw;case rel=>exact⟨X,l4,_,by go_num,by omega,HR5.o.aj (by(focus(repeat(first|exact aa _|apply ak|apply ah|apply af)))),by rw[Na.o,NW.o],Ls.o⟩
         case measure=>simp[intOf]
       .have aeB:¬(u:Int)<l2.length:=by omega
        clear S hl4;go_upto_region 32 with fail;go_quiet(fail);go_wp2_with fail;go_roundw;case rel=>exact⟨X,l4,_,by go_num,by omega,HR5.o.aj (by(focus(repeat(first|exact aa _|apply ak|apply ah|apply af)))),by rw[Na.o,NW.o],Ls.o⟩
        case measure=>simp[intOf]
  obtain⟨b,o,rfl,hcx⟩:=(HS.o _ A.o.ext).mV.at_ K;obtain⟨x,hx⟩:∃x,s[k]=x:=⟨_,rfl⟩;rw[hx]at hcx;have HXK:=jd hx;obtain⟨y,hy⟩:∃y,CG s ((k:Int)+1)=y:=⟨_,rfl⟩;have HA1:=jd (HAT.o ((k:Int)+1));rw[hy]at HA1;have HY:=jd hy;clear hx hy;obtain⟨i0,J,-,D,-⟩:=fD gQ;have hsl1:=fun W=>(show(Instr.slice 24 (.slice (some ⟨b,o,none⟩) s.length B) (some (.int .i64 ((k:Int)))) (some (.int .i64 ((k:Int)+1))) none).run Tryz.prog W=.ok (.slice (iD (some ⟨b,o,none⟩) B (k) i0.size) 1 (B-(k))) W from by have:=mK (P:=Tryz.prog) eT J (some ⟨b,o,none⟩) (n:=s.length) (c:=B) (k:=k) (m:=k+1) (by omega) (by omega) W;rw[show k+1-(k)=1 by omega]at this;exact this);simp only[D]at hsl1;clear J D;by_cases gu:x=92
  .subst gu;by_cases hyy:y=36\/y=125\/y=92
   .have hk1:=OU HY.o (by omega);have Z:(y==36)=true\/((y==36)=false/\(y==125)=true)\/((y==36)=false/\(y==125)=false/\(y==92)=true):=by rcases hyy with rfl|rfl|rfl<;>simp
    clear hyy hsl1;obtain⟨i0,J,-,D,-⟩:=fD gQ;have hsl2:=fun W=>(show(Instr.slice 24 (.slice (some ⟨b,o,none⟩) s.length B) (some (.int .i64 ((k:Int)+1))) (some (.int .i64 ((k:Int)+2))) none).run Tryz.prog W=.ok (.slice (iD (some ⟨b,o,none⟩) B (k+1) i0.size) 1 (B-(k+1))) W from by have:=mK (P:=Tryz.prog) eT J (some ⟨b,o,none⟩) (n:=s.length) (c:=B) (k:=k+1) (m:=k+2) (by omega) (by omega) W;rw[show k+2-(k+1)=1 by omega]at this;exact this);simp only[D]at hsl2;clear J D;rcases Z with q1|⟨q1,q2⟩|⟨q1,q2,q3⟩;all_goals
     go_wp2_with(first|(go_at_call 10;refine(HA1.o _ A.o.ext).mono ?_;rintro e w9⟨rfl,rR⟩;have L:Ext _ w9:=(by obtain⟨m,rfl⟩:=rR;exact(aa _).drewN m);have A:=jd (A.o.aj L);have c2:=A.o.c2;clear L rR)|(go_at_call 11;refine(mg C H _ _ _ l _ _ A.o ⟨0,0,0,[s[k+1]],[],[],[],false,false⟩ (.slice (iD (some ⟨b,o,none⟩) B (k+1) 1) 1 (B-(k+1))) (.slice none 0 0) (.slice none 0 0) (.slice none 0 0) ⟨(HS.o _ A.o.ext).one hk1,aS,aS,aS⟩ (by omega)).mono ?_;rintro e w8⟨rfl,U,E⟩;have F:=jd E;clear E)|fail);go_roundw;case rel=>
      exact⟨k+2,_,op,_,_,by omega,by go_num,F.o,by rw[ai];simp;omega,(fun x hx=>by
       rcases iN.1 hx with hx|hx
       .exact kM.o x hx
       .simp at hx;subst hx;exact JG.sg (by omega) (by omega)),by rw[ai];exact Dm.o.mono (by omega)⟩
     case measure=>simp[intOf];omega
   .have y1:(y==36)=false:=by simp;omega
    have y2:(y==125)=false:=by simp;omega
    have y3:(y==92)=false:=by simp;omega
    clear hyy;go_wp2_with(first|(go_at_call 10;refine(HA1.o _ A.o.ext).mono ?_;rintro e w9⟨rfl,rR⟩;have L:Ext _ w9:=(by obtain⟨m,rfl⟩:=rR;exact(aa _).drewN m);have A:=jd (A.o.aj L);have c2:=A.o.c2;clear L rR)|(go_at_call 11;refine(mg C H _ _ _ l _ _ A.o ⟨0,0,0,[s[k]],[],[],[],false,false⟩ (.slice (iD (some ⟨b,o,none⟩) B (k) 1) 1 (B-(k))) (.slice none 0 0) (.slice none 0 0) (.slice none 0 0) ⟨(HS.o _ A.o.ext).one K,aS,aS,aS⟩ (by omega)).mono ?_;rintro e w8⟨rfl,U,E⟩;have F:=jd E;clear E)|fail);go_roundw;case rel=>
     exact⟨k+1,_,op,_,_,by omega,by go_num,F.o,by rw[ai];simp;omega,(fun x hx=>by
      rcases iN.1 hx with hx|hx
      .exact kM.o x hx
      .simp at hx;subst hx;exact JG.sg (by omega) (by omega)),by rw[ai];exact Dm.o.mono (by omega)⟩
    case measure=>simp[intOf];omega
  have WV:(x==92)=false:=by simpa using gu
  by_cases ig:x=125
  .subst ig;clear gu;rcases List.eq_nil_or_concat op with rfl|⟨G,p,rfl⟩
   .go_wp2_with(first|(go_at_call 10;refine(HA1.o _ A.o.ext).mono ?_;rintro e w9⟨rfl,rR⟩;have L:Ext _ w9:=(by obtain⟨m,rfl⟩:=rR;exact(aa _).drewN m);have A:=jd (A.o.aj L);have c2:=A.o.c2;clear L rR)|(go_at_call 11;refine(mg C H _ _ _ l _ _ A.o ⟨0,0,0,[s[k]],[],[],[],false,false⟩ (.slice (iD (some ⟨b,o,none⟩) B (k) 1) 1 (B-(k))) (.slice none 0 0) (.slice none 0 0) (.slice none 0 0) ⟨(HS.o _ A.o.ext).one K,aS,aS,aS⟩ (by omega)).mono ?_;rintro e w8⟨rfl,U,E⟩;have F:=jd E;clear E)|fail);go_roundw;case rel=>
     exact⟨k+1,_,[],_,_,by omega,by go_num,F.o,by rw[ai];simp;omega,(fun x hx=>by
      rcases iN.1 hx with hx|hx
      .exact kM.o x hx
      .simp at hx;subst hx;exact JG.sg (by omega) (by omega)),by rw[ai];exact Dm.o.mono (by omega)⟩
    case measure=>simp[intOf];omega
   .rw[List.concat_eq_append]at*;have hol:(G++[p]).length=G.length+1:=by simp
    obtain⟨i1,hi1,-,hz2,-⟩:=fD Ia;have afH:=fun W=>AU (P:=Tryz.prog) Tryz.underlying46 hi1 Ao (n:=G.length+1) (c:=co) (m:=G.length) (by have:=hco;omega) W;clear hi1 hz2;rw[hol]at c2 acZ hco;have hoi:(G.length:Int)<=(co:Int):=by omega
    have ho0:(0:Int)<=(G.length:Int):=by omega
    have ew:IntKind.i64.wrap (G.length:Int)=(G.length:Int):=jA _ (by omega);go_upto_region 12 with fail;have f2:=A.o.fr 2;go_region_law(fail);all_goals
     go_wp2_with fail;go_roundw;case rel=>exact⟨k+1,l,G,_,_,by omega,by go_num,by first|exact Rd.aaX (A.o.aj (by(focus(repeat(first|exact aa _|apply ak|apply ah|apply af))))) (ay.pop (A.o.aj (by(focus(repeat(first|exact aa _|apply ak|apply ah|apply af))))).opn) (sV _ _)|exact(Rd.aaX (A.o.aj (by(focus(repeat(first|exact aa _|apply ak|apply ah|apply af))))) (ay.pop (A.o.aj (by(focus(repeat(first|exact aa _|apply ak|apply ah|apply af))))).opn) (sV _ _)).aj (by(focus(repeat(first|exact aa _|apply ak|apply ah|apply af)))),by omega,kM.o,by omega,fun q Z=>Dm.o.2 q (iN.2 (.inl Z))⟩
     case measure=>simp[intOf];omega
  have Ot:(x==125)=false:=by simpa using ig
  by_cases qp:x=36;rotate_left
  .have b36:(x==36)=false:=by simpa using qp
   clear gu ig qp;go_wp2_with(first|(go_at_call 10;refine(HA1.o _ A.o.ext).mono ?_;rintro e w9⟨rfl,rR⟩;have L:Ext _ w9:=(by obtain⟨m,rfl⟩:=rR;exact(aa _).drewN m);have A:=jd (A.o.aj L);have c2:=A.o.c2;clear L rR)|(go_at_call 11;refine(mg C H _ _ _ l _ _ A.o ⟨0,0,0,[s[k]],[],[],[],false,false⟩ (.slice (iD (some ⟨b,o,none⟩) B (k) 1) 1 (B-(k))) (.slice none 0 0) (.slice none 0 0) (.slice none 0 0) ⟨(HS.o _ A.o.ext).one K,aS,aS,aS⟩ (by omega)).mono ?_;rintro e w8⟨rfl,U,E⟩;have F:=jd E;clear E)|fail);go_roundw;case rel=>
    exact⟨k+1,_,op,_,_,by omega,by go_num,F.o,by rw[ai];simp;omega,(fun x hx=>by
     rcases iN.1 hx with hx|hx
     .exact kM.o x hx
     .simp at hx;subst hx;exact JG.sg (by omega) (by omega)),by rw[ai];exact Dm.o.mono (by omega)⟩
   case measure=>simp[intOf];omega
  subst qp;clear gu ig;go_upto_if 107 with(first|(go_at_call 12;refine(Gq s _ k C _ H _ _ l op (HS.o C (aa C)) A.o K hsl).mono ?_;rintro e wd⟨kW,r,vt8,vi8,vp8,vf8,k8,op8,he8,hn8,ok8,hk8,ZU,aeF⟩;obtain⟨At8,ct8,Ai8,ci8,Ap8,cp8,Af8,cf8,rfl,rfl,rfl,rfl⟩:=hn8.shape;have he9:e=.returned (.tuple #[.agg #[.int .i64 r.kind,.int .i64 r.deep,.int .i64 r.num,.slice At8 r.text.length ct8,.slice Ai8 r.items.length ci8,.slice Ap8 r.pat.length cp8,.slice Af8 r.forms.length cf8,.bool r.all,.bool r.fold],.int .i64 (k8:Int),.bool op8]):=he8;clear he8;subst he9;have HRa:=jd (A.o.aj kW);have HNa:=jd hn8;clear kW hn8)|fail);have HRb:=jd (HRa.o.aj ((aa wd).alloc (.cells #[.int .i64 r.kind,.int .i64 r.deep,.int .i64 r.num,.slice At8 r.text.length ct8,.slice Ai8 r.items.length ci8,.slice Ap8 r.pat.length cp8,.slice Af8 r.forms.length cf8,.bool r.all,.bool r.fold] 28)));have HNb:=jd (HNa.o.keep (au ((aa wd).alloc (.cells #[.int .i64 r.kind,.int .i64 r.deep,.int .i64 r.num,.slice At8 r.text.length ct8,.slice Ai8 r.items.length ci8,.slice Ap8 r.pat.length cp8,.slice Af8 r.forms.length cf8,.bool r.all,.bool r.fold] 28))));have HBb:=jd (aB wd (.cells #[.int .i64 r.kind,.int .i64 r.deep,.int .i64 r.num,.slice At8 r.text.length ct8,.slice Ai8 r.items.length ci8,.slice Ap8 r.pat.length cp8,.slice Af8 r.forms.length cf8,.bool r.all,.bool r.fold] 28));generalize hnb:wd.heap.size=nb at HBb⊢;clear hnb;generalize wd.alloc (.cells #[.int .i64 r.kind,.int .i64 r.deep,.int .i64 r.num,.slice At8 r.text.length ct8,.slice Ai8 r.items.length ci8,.slice Ap8 r.pat.length cp8,.slice Af8 r.forms.length cf8,.bool r.all,.bool r.fold] 28)=we at HRb HNb HBb⊢;have A:=HRb;have c2:=A.o.c2;clear HRa HNa;by_cases h0:k8=0
  .subst h0;go_wp2_with(first|(go_at_call 11;refine(mg C H _ _ _ l _ _ A.o ⟨0,0,0,[s[k]],[],[],[],false,false⟩ (.slice (iD (some ⟨b,o,none⟩) B (k) 1) 1 (B-(k))) (.slice none 0 0) (.slice none 0 0) (.slice none 0 0) ⟨(HS.o _ A.o.ext).one K,aS,aS,aS⟩ (by omega)).mono ?_;rintro e w8⟨rfl,U,E⟩;have F:=jd E;clear E)|fail);go_roundw;case rel=>
    exact⟨k+1,_,op,_,_,by omega,by go_num,F.o,by rw[ai];simp;omega,(fun x hx=>by
     rcases iN.1 hx with hx|hx
     .exact kM.o x hx
     .simp at hx;subst hx;exact JG.sg (by omega) (by omega)),by rw[ai];exact Dm.o.mono (by omega)⟩
   case measure=>simp[intOf];omega
  have hpos:(0:Int)<(k8:Int):=by omega
  have aeG:k<k8/\k8<=s.length:=by omega
  obtain⟨afI,ac4⟩:=aeG;have zW:=jd (show r.kind≠0 by omega);have ac5:=jd ok8;have L9:=jd ZU;clear ok8 ZU hk8 aeF h0;obtain⟨d0,d1,d2,d3,d4,d5,d6,d7,d8⟩:=BH HBb.o;cases op8
  .go_wp2_with(first|(go_at_call 11;refine(mg C H _ _ _ l _ _ A.o r _ _ _ _ HNb.o (by omega)).mono ?_;rintro e w8⟨rfl,U,E⟩;have F:=jd E;clear E)|fail);go_roundw;case rel=>
    exact⟨k8,_,op,_,_,ac4,rfl,F.o,by rw[ai];simp;omega,(fun x hx=>by
     rcases iN.1 hx with hx|hx
     .exact kM.o x hx
     .simp at hx;subst hx;exact JG.Wp ⟨ac5.o,fun h=>absurd h zW.o⟩ (by omega) (by omega)),by rw[ai];exact Dm.o.mono (by omega)⟩
   case measure=>simp[intOf];omega
  .have N:(l++[{r with deep:=(op.length:Int)}]).length=l.length+1:=by simp
   go_upto_region 19 with(first|(go_at_call 11;refine(mg C H _ _ _ l _ _ A.o r _ _ _ _ HNb.o (by omega)).mono ?_;rintro e w8⟨rfl,U,E⟩;have F:=jd E;clear E)|fail);obtain⟨Al9,cl9,rfl,-⟩:=F.o.nodes.form;have c1:=F.o.c1;rw[N]at c1;have c2:=F.o.c2;have f2:=F.o.fr 2;have aeH:=ag F.o.box;have ew:IntKind.i64.wrap (l.length:Int)=(l.length:Int):=jA _ (by omega);have ac6:(op++[((k:Int),(l.length:Int))]).length=op.length+1:=by simp
   have tV:=jd (fun W=>Wo W (k:Int) (l.length:Int));have afJ:=(L9.o (by first|rfl|trivial)).1;go_region_law(first|(refine om Tryz.underlying46 Ia rfl (by decide) (by decide) (T:=[]) (wG []) (by simp) acY rfl _ _ (by rfl) (H+1) 0 (.slice Ao op.length co) (.slice (some ⟨w8.heap.size,0,none⟩) 1 1) op [((k:Int),(l.length:Int))] ((F.o.aj (by(focus(repeat(first|exact aa _|apply ak|apply ah|apply af))))).opn) ?h2 ?hs ?hx ?hn ?hB ?_;(case hs=>simp[Act.eval]);(case hx=>simp[Act.eval]);(case h2=>(first|exact tV.o _|exact bH (tV.o w8) (wG []) (au (by(focus(repeat(first|exact aa _|apply ak|apply ah|apply af))))) (au (by(focus(repeat(first|exact aa _|apply ak|apply ah|apply af)))))|exact bH (tV.o w8.drew) (wG []) (au (by(focus(repeat(first|exact aa _|apply ak|apply ah|apply af))))) (au (by(focus(repeat(first|exact aa _|apply ak|apply ah|apply af)))))|fail));(case hn=>(simp;omega));(case hB=>exact aG aeH (jT (by(focus(repeat(first|exact aa _|apply ak|apply ah|apply af))))));intro v4 w4 h4 hg4;obtain⟨A4,c4,rfl,-⟩:=h4.form;rw[ac6]at h4;have hb:=(F.o.aj (by(focus(repeat(first|exact aa _|apply ak|apply ah|apply af))))).acO hg4;obtain⟨-,-,q2,-,-,g2⟩:=jf3 hb;have aes:=ag hb;have HF:=jd (Rd.aaX (F.o.aj (by(focus(repeat(first|exact aa _|apply ak|apply ah|apply af))))) h4 hg4);clear hb h4 hg4)|fail);all_goals
    go_wp2_with fail;go_roundw;case rel=>
     exact⟨k8,_,_,_,_,ac4,rfl,by first|exact HF.o|exact HF.o.aj (by(focus(repeat(first|exact aa _|apply ak|apply ah|apply af)))),by rw[N];omega,(fun x hx=>by
      rcases iN.1 hx with hx|hx
      .exact kM.o x hx
      .simp at hx;subst hx;exact JG.Wp ⟨ac5.o,fun h=>absurd h zW.o⟩ (by omega) (by omega)),by
      refine⟨by rw[ac6];omega,fun q Z=>?_⟩;rw[N];rcases iN.1 Z with Z|Z
      .obtain⟨i,j,m,M,h2,h3,h4,h5⟩:=Dm.o.2 q Z;exact⟨i,j,m,M,h2,h3,h4,by omega⟩
      .simp at Z;obtain⟨-,h6,h7⟩:=L9.o (by first|rfl|trivial);have hne:k≠k8-1:=by intro e;rw[<-e,aU K,HXK.o]at h7;injection h7 with h7;exact absurd h7 (by decide)
       exact⟨k,k8-1,l.length,Z,by omega,(dh.1 h7).1,h7,by omega⟩⟩
    case measure=>simp[intOf];omega
theorem jH.front{w:World}{A:Option Addr}{n c m:Nat}{l:List SH.dC}(h:jH w (.slice A n c) l)(d:m<=n):jH w (.slice A m c) (l.take m):=by
 obtain⟨t,u,e,v,f,i,j⟩:=h;injection e with p r s;subst p r s;refine⟨A,c,by rw[kg,Nat.min_eq_left d],by rw[kg];omega,f,fun k x a=>i k x ?_,j⟩;rw[pY]at a;split at a
 .exact a
 .cases a
theorem Gr(l:List SH.dC)(ts:List Int)(vl vs:Value)(a r:Int)(x:SH.dC)(vt vi vp vf:Value)(w:World)(V:jH w vl l)(X:YX w vs ts)(Y:nS w x vt vi vp vf)(s:∀y∈l,FB 100000000 y)(d:FB 100000000 x)(t:Tb w):Calls Tryz.prog 3 #[vl,vs,.int .i64 a,.int .i64 r,Gn x vt vi vp vf] w (qL (.bool true) w):=by
 have u:=jd V;have z:=jd Y;have Z:=jd d;have Wq:=jd s;have m:=jd t;have B:=jd X;obtain⟨A,ca,rfl,hlc,hcm⟩:=V.kQ;obtain⟨L,M,rfl,-⟩:=id X;have hsh:=Y.shape;clear V Y s d t X;obtain⟨At,ct,Ai,ci,Ap,cp,Af,cf,hvt,hvi,hvp,hvf,-⟩:=hsh;subst hvt hvi hvp hvf;obtain⟨N,O,P,tx,Q,R,fo,S,T⟩:=x;dsimp only[Gn,dK]at z⊢;have f:=jd ((aa w).alloc (.cells #[.int .i64 N,.int .i64 O,.int .i64 P,.slice At tx.length ct,.slice Ai Q.length ci,.slice Ap R.length cp,.slice Af fo.length cf,.bool S,.bool T] 28));have k:=jd (aB w (.cells #[.int .i64 N,.int .i64 O,.int .i64 P,.slice At tx.length ct,.slice Ai Q.length ci,.slice Ap R.length cp,.slice Af fo.length cf,.bool S,.bool T] 28));have z:=jd (z.o.ext f.o);have m:=jd (m.o.ext f.o);have B:=jd (YX.ext B.o f.o);have u:=jd (jH.ext u.o f.o);obtain⟨xb,d⟩:∃xb,xb=w.heap.size:=⟨_,rfl⟩;rw[<-d]at k;go_enter Tryz.func3,Tryz.ntmps3;go_upto_region 1 with fail;rw[<-d];clear d;generalize w.alloc (.cells #[.int .i64 N,.int .i64 O,.int .i64 P,.slice At tx.length ct,.slice Ai Q.length ci,.slice Ap R.length cp,.slice Af fo.length cf,.bool S,.bool T] 28)=i at f k z m B u⊢;have xc:=jd ((aa i).alloc (.cells #[.slice L ts.length M,.int .i64 0] 36));have C:=jd (show rG i i.heap.size (.slice L ts.length M) ts (i.alloc (.cells #[.slice L ts.length M,.int .i64 0] 36)) 0 from⟨B.o,az _,xc.o,aB i _,aL _⟩);have T9:=jd (show Calls Tryz.prog 5 #[.pointer (some ⟨i.heap.size,0,none⟩),.int .i64 3,.int .i64 300] (i.alloc (.cells #[.slice L ts.length M,.int .i64 0] 36)) (fun e D=>Ext i D/\∃v l,e=.returned v/\aT 21 1 Cc 0 D v l/\l.length<=300)from(Sr _ 0 C.o).mono (fun e D⟨v,l,j,h1,h2,h3,_,_,h6⟩=>⟨xc.o.only h6 (az _),v,l,h1,jq h2 (aL _),h3⟩));clear C B;by_cases h30:30<l.length;focus
  have afK:(30:Int)<=(ca:Int):=by omega
  have HL:=jd (show∀W,Ext i W->jH W (.slice A 30 ca) (l.take 30)from fun W hW=>jH.ext (jH.front u.o (Nat.le_of_lt h30)) hW);have E:=jd (show Bl (l.take 30)from fun y h=>by have:=Wq.o y (by first|exact h|exact List.mem_of_mem_take h);unfold FB at this;omega)
 rotate_left;focus
  have HL:=jd (show∀W,Ext i W->jH W (.slice A l.length ca) l from fun W hW=>jH.ext u.o hW);have E:=jd (show Bl l from fun y h=>by have:=Wq.o y (by first|exact h|exact List.mem_of_mem_take h);unfold FB at this;omega)
 rotate_left;all_goals
  go_upto_region 4 with(first|(go_at_call 5;refine T9.o.mono ?_;rintro e D⟨sH,v3,l3,rfl,F,KU⟩;have sZ:=jd sH;have Di:=jd F;clear sH F)|(go_at_call 4;refine(LQ l3 v3 D Di.o KU).mono ?_;rintro e U⟨qD,v4,l4,c4,a4,rfl,p,G,hn4⟩;have CJ:=jd (sZ.o.trans qD);have yu:=jd p;have BN:=jd G;obtain⟨A4,d4,rfl,-⟩:=p.kQ;clear qD p G)|fail);have H:=jd (CJ.o.trans ((aa U).alloc (.cells #[.int .i64 c4,.int .i64 a4] 31)));have yz:=jd (yu.o.ext ((aa U).alloc (.cells #[.int .i64 c4,.int .i64 a4] 31)));generalize U.alloc (.cells #[.int .i64 c4,.int .i64 a4] 31)=w5 at H yz⊢;generalize U.heap.size=fb5;have Zo:=jd (show Bl l4 from fun y h=>by have:=BN.o y h;unfold FB at this;omega);have afL:=jd (H.o.heap k.o);have bW:True:=trivial;have ja:True:=trivial;have wW:True:=trivial;go_wp2_with(first|(have _t:=bW;go_at_call 6;refine(yo _ _ w5 (HL.o w5 H.o) E.o (m.o.ext H.o)).mono ?_;rintro e w6⟨rfl,WR⟩;have Ws:=jd (H.o.trans WR);have I:=jd WR;clear WR bW _t)|(have _t:=ja;go_at_call 6;refine(yo l4 _ w6 (yz.o.ext I.o) Zo.o (m.o.ext Ws.o)).mono ?_;rintro e w7⟨rfl,Tt⟩;have Mg:=jd (Ws.o.trans Tt);have aeI:=jd (I.o.trans Tt);have J:=Mg.o.heap k.o;obtain⟨d0,d1,d2,d3,d4,d5,d6,d7,d8⟩:=BH J;clear Tt J ja _t)|(go_at_call 7;refine(Jo l4 _ a r ⟨N,O,P,tx,Q,R,fo,S,T⟩ _ _ _ _ 100000000 w7 (yz.o.ext aeI.o) (by omega) (z.o.ext Mg.o) (fun y h=>by have:=BN.o y h;unfold FB at this⊢;omega) Z.o).mono ?_;rintro e w8⟨v8,l8,rfl,kW,Y5,K,hn8⟩;have Yg:=jd (Mg.o.trans kW);have Xu:=jd Y5;have HF8:=jd (show Bl l8 from fun y h=>by have:=K y h;unfold FB at this;omega);clear kW Y5 K)|(have _t:=wW;go_at_call 6;refine(yo l8 _ w8 Xu.o HF8.o (m.o.ext Yg.o)).mono ?_;rintro e w9⟨rfl,Cn⟩;have wN:=jd (Yg.o.trans Cn);clear Cn wW _t)|(go_at_call 8;refine(LU w9 (m.o.ext wN.o)).mono ?_;rintro e Vn⟨rfl,OY⟩;have Jn:=jd (wN.o.trans OY);clear OY)|fail);go_ret;exact⟨rfl,f.o.trans Jn.o⟩
end Go.Proofs.YtcogknbbbjnaiaaGreatDoor
