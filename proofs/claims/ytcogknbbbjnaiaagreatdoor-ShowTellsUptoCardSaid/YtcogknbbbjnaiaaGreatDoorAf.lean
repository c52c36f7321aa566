/- For ShowTells: what the texts XMxH XMxI of wip/tpl say. -/
import Derived.Test.YtcogknbbbjnaiaaGreatDoorAd
import Derived.Test.YtcogknbbbjnaiaaGreatDoorAe
set_option maxRecDepth 100000
set_option maxHeartbeats 4000000
namespace Go.Proofs.YtcogknbbbjnaiaaGreatDoor
open Go.RowKit
theorem Jy.abM{B:Nat}{w:World}{v:Value}{l:List PG.aD}(h:Jy B w v l):KF (B<=·) w v l:=by
 obtain⟨A,c,rfl,t,u,e,z⟩:=h;refine⟨A,c,rfl,t,u,fun k x f=>?_,e⟩;cases A with
 |none=>have:=e rfl;obtain⟨C,-⟩:=dh.1 f;omega
 |some a=>
  obtain⟨g,o,D,rfl,E,S,F⟩:=z a rfl;obtain⟨j,⟨G,rfl,H⟩,I⟩:=F k x f;refine⟨g,o,rfl,E,_,⟨G,rfl,?_⟩,rfl,I⟩;obtain⟨m,J,K,L,M,p,N⟩:=H;refine⟨m,J,K,L,M,fun i y r=>?_,p⟩;cases m with
  |none=>have:=p rfl;obtain⟨C,-⟩:=dh.1 r;omega
  |some a=>obtain⟨b,q,s,rfl,O,P,-,Q⟩:=N a rfl;obtain⟨j,d,R⟩:=Q i y r;have d:j=[.int .i32 y]:=d;subst d;exact⟨b,q,rfl,O,(cy _ P).trans (R 0 _ rfl)⟩
theorem Jy.ins{B:Nat}{w:World}{v:Value}{l:List PG.aD}(h:Jy B w v l):KF (fun _=>True) w v l:=h.abM.keep fun _ _ _ _ a=>⟨trivial,a⟩
def abN(s:List Int)(fold:Bool)(w:World)(e:Ending)(w':World):Prop:=Ext w w'/\((PG.compile s).2.1≠0/\e=.returned (.tuple #[.pointer none,.agg #[.int .i64 (PG.compile s).2.1,.int .i64 (PG.compile s).2.2]])\/∃(l:List PG.aD)(t:List RX.aA)(k mb:Nat)(vp:Value),PG.compile s=(l,0,0)/\RX.parse s=(t,0,0)/\PG.Made l (RX.groups t) k/\(∀x∈l,x.set.length<=1000)/\RX.groups t<=200/\e=.returned (.tuple #[.pointer (some ⟨mb,0,none⟩),.agg #[.int .i64 0,.int .i64 0]])/\Mtc w' mb vp l (RX.groups t) fold/\w.heap.size<=mb/\KF (w.heap.size<=·) w' vp l)
theorem UM(s:List Int)(fold:Bool)(v:Value)(w:World)(J:ib w v s):Calls Tryz.prog 86 #[v,.bool fold] w (abN s fold w):=by
 obtain⟨A,c,rfl,hlc,hcm,-⟩:=id J;have HV:=jd J;have Xv:=jd (fun w'(h:Ext w w')=>IQ s _ w' (J.ext h));obtain⟨R,L⟩:∃R,PG.compile s=R:=⟨_,rfl⟩;obtain⟨l,code,gL⟩:=R;have HR:=jd L;unfold abN;rw[L];clear J L;go_enter Tryz.func86,Tryz.ntmps86;go_upto_region 2 with(go_at_call 102;refine(Xv.o _ ((aa w).alloc _)).mono ?_;rintro e j⟨u,v2,rfl,d⟩;have M:=jd (show PD w w.heap.size j from⟨((aa w).alloc _).trans u,az _,u.heap (aB w _)⟩);rw[HR.o]at d⊢;dsimp only at d⊢;have jZ:=jd d;have N:=d.form;clear d u);obtain⟨A2,c2,rfl,aby,hcm2⟩:=N;have a:=jd (M.o.aj ((aa j).alloc (.cells #[.int .i64 code,.int .i64 gL] 31)));have O:=jd (jZ.o.ext ((aa j).alloc (.cells #[.int .i64 code,.int .i64 gL] 31)));have P:(j.alloc (.cells #[.int .i64 code,.int .i64 gL] 31)).cell? ⟨j.heap.size,0,none⟩=some (.int .i64 code):=by rw[oJ];rfl
 have Q:(j.alloc (.cells #[.int .i64 code,.int .i64 gL] 31)).cell? ⟨j.heap.size,1,none⟩=some (.int .i64 gL):=by rw[oJ];rfl
 have C:j.heap.size≠w.heap.size:=by have:=ag M.o.wO;omega
 have r0:=a.o.r0;have r1:=a.o.r1;have K:=a.o.fr 0;have f1:=a.o.fr 1;generalize j.alloc _=w3 at a O P Q r0 r1 K f1⊢;generalize IA:w.heap.size=fb at a C r0 r1 K f1⊢;generalize j.heap.size=xb at P Q C⊢;clear IA M jZ;by_cases z:code=0;rotate_left
 .have D:(code !=0)=true:=by simpa using z
  have HC:=jd z;clear z;go_wp2_with fail;go_region;go_wp2_with fail;refine bC (v:=.tuple #[.pointer none,.agg #[.int .i64 code,.int .i64 gL]]) (by simp[results,Tryz.results86,go_sem,r0,r1]) rfl ?_;exact⟨((a.o.ext.set (p:=⟨fb,0,none⟩) a.o.F3 _).set (p:=⟨fb,1,none⟩) a.o.F3 _).drew,.inl ⟨HC.o,rfl⟩⟩
 subst z;obtain⟨t,k,B,Zh,hl,hn,Kh⟩:=PG.IM HR.o;subst Kh;have hg:RX.groups t<=200:=by
  have h1:=(RX.vJ B).1;have h2:RX.groups t<=t.length:=by unfold RX.groups;exact List.length_filter_le _ _
  omega
 have S:t.length<=1000000:=by have:=(RX.vJ B).1;omega
 have r:∀x∈l,x.set.length<=1000:=by obtain⟨b,hw,-⟩:=RX.yD B;have D:=(RX.gm hw).le;have E:=PG.mr (g:=b.toNat) hw (tK _) (by omega) 0 t.length (az _);rw[zQ]at E;rw[hl];exact(PG.xW (RX.qO B) E hn).2.1
 obtain⟨T,yS⟩:∃T,RX.groups t=T:=⟨_,rfl⟩;have HG:=jd yS;have Nq:=jd B;have U:=jd Zh;have V:=jd r;have Md:=jd hg;clear B Zh hl hn r hg yS Q;have lF:=jd (HV.o.ext a.o.ext);go_upto_region 5 with(go_at_call 103;refine(GQ s _ _ lF.o).mono ?_;rintro e w4⟨v4,u4,rfl,⟨f,rfl⟩,X⟩;rw[Nq.o]at f⊢;dsimp only at f⊢;have Y:=f.form;have Y8:=jd f;have zJ:=jd (a.o.aj X);have jY:=jd (O.o.ext X);clear f X);obtain⟨A4,c4,rfl,-,-⟩:=Y;have i:=(aa w4).alloc (.cells #[.int .i64 0,.int .i64 0] 31);have F:=jd (bH Y8.o (dE _) (au i) (au i));have vK:=jd (zJ.o.aj i);have rT:=jd (jY.o.ext i);clear i r0 r1 K f1 P Y8 zJ jY a O;generalize w4.alloc _=w5 at F vK rT⊢;have G:=jd (fun w'(h:Ext w5 w')=>Nk t _ (.slice A4 t.length c4) w' (bH F.o (dE _) (au h) (au h)) S);rw[HG.o]at G;go_wp2_with(go_at_call 104;refine(G.o _ (aa _)).mono ?_;rintro e H⟨rfl,Z⟩;have m:=jd (vK.o.aj Z);have WS:=jd (rT.o.ext Z);have r0:=m.o.r0;have r1:=m.o.r1;have K:=m.o.fr 0;have f1:=m.o.fr 1;have hfl:fb<H.heap.size:=ag m.o.wO;clear Z);have I:=jd (WS.o.off m.o.wO (w':=(H.setCell ⟨fb,0,none⟩ (.int .i64 0)).setCell ⟨fb,1,none⟩ (.int .i64 0)) (fun _ hi=>(gJ hi).trans (gJ hi)));have hEF:=(m.o.ext.set (p:=⟨fb,0,none⟩) m.o.F3 (.int .i64 0)).set (p:=⟨fb,1,none⟩) m.o.F3 (.int .i64 0);refine bC (v:=.tuple #[.pointer (some ⟨H.heap.size,0,none⟩),.agg #[.int .i64 0,.int .i64 0]]) (by simp[results,Tryz.results86,go_sem,r0,r1,hfl]) rfl ?_;refine⟨hEF.alloc _,.inr ⟨l,t,k,H.heap.size,_,rfl,Nq.o,U.o,V.o,Md.o,rfl,⟨?_,(I.o.ext ((aa _).alloc _)).ins⟩,aG m.o.ext.size (az _),(I.o.ext ((aa _).alloc _)).abM.keep fun _ _ _ D z=>⟨aG (by simp) D,z⟩⟩⟩;rw[HG.o];have D:=aB ((H.setCell ⟨fb,0,none⟩ (.int .i64 0)).setCell ⟨fb,1,none⟩ (.int .i64 0)) (.cells #[.slice A2 l.length c2,.int .i64 (T:Int),.bool fold] 137);simpa using D
end Go.Proofs.YtcogknbbbjnaiaaGreatDoor
