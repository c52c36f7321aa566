/- For ShowTells: what the texts XLawN of wip/tpl say. -/
import Derived.Test.YtcogknbbbjnaiaaGreatDoorAr
import Derived.Test.YtcogknbbbjnaiaaGreatDoorAv
set_option maxRecDepth 100000
namespace Go.Proofs.YtcogknbbbjnaiaaGreatDoor
open Go.ChangeShapes Go.WideShapes Go.ChangeAt Go.RowKit
section
variable{H:Type}{enc:TypeId×Value->H}
theorem UH{α:Type}(f:α->Nat)(F:List α->Nat)(hF0:F []=0)(hFc:∀a r,F (a::r)=f a+F r)(c:Nat):∀(l:List α)(ds:List (DataW H)),l.length=ds.length->(∀(k:Nat)(a:α)(d:DataW H),l[k]?=some a->ds[k]?=some d->f a<=c*Rows.uptoBulk d)->F l<=c*Rows.uptoBulkAll ds
|[],_,_,_=>by rw[hF0];exact aL _
|_::_,[],h,_=>by simp at h
|a::r,d::ds,h,hk=>by have h1:=UH f F hF0 hFc c r ds (by simpa using h) (fun k a d h1 h2=>hk (k+1) a d (by simpa using h1) (by simpa using h2));have h2:=hk 0 a d rfl rfl;rw[hFc,Rows.uptoBulkAll,Nat.mul_add];omega
theorem Em{W:World}{u:Value}{n:Nat}{y:DataW H×List MemPlace}(h:DataW.trod enc Tryz.prog W 0 (fun _=>true) true n 24 [u]=some y):∃xs:List Int,ib W u xs/\xs.length+1<=Rows.uptoBulk y.1:=by
 have hc:Tryz.prog.cellsOf 21=1:=by kernel_rfl
 rcases open_ints eT Tryz.underlying21 hc h with⟨hcs,_⟩|⟨a,len,cap,zs,hcs,_,hl,hm,hz,hx,hcell,hwz⟩
 .injection hcs with hcs;subst hcs;exact⟨[],nz.eU,Eh _⟩
 .injection hcs with hcs;subst hcs;simp only[if_true]at hz;have hlz:(zs.take len).length=len:=by rw[kg];omega
  refine⟨zs.take len,⟨some a,cap,by rw[hlz],by rw[hlz];exact hl,by unfold maxLen at hm;omega,fun i x hx=>?_,by intro h;cases h⟩,?_⟩
  .have hi:i<len:=by
    rcases fC i len with h|h
    .exact h
    .rw[gD (by omega)]at hx;cases hx
   have hsp:=Ac (hcell 0 (by omega));refine⟨a.block,a.off,by rw[<-hsp],?_⟩;have hi':=hcell i (by omega);have hx':zs.getD i 0=x:=by rw[pY,av hi]at hx;simp[List.getD,hx]
   rw[hx',Ei hsp]at hi';rw[sU];exact hi'
  .rw[hx];simp only[Rows.uptoBulk];refine Nat.succ_le_succ (aG (aG ?_ (yZ _)) (Nat.le_add_right _ _));simp only[lits,fP];exact az _
theorem Ad{α:Type}{t te sz:Nat}{W:World}{u:Value}{n:Nat}{y:DataW H×List MemPlace}(ht:Tryz.prog.underlying t=some (.slice te))(hsz:Tryz.prog.cellsOf te=sz)(h0:0<sz)(R:List Value->α->Prop)(S:World->Nat->Nat->α->Prop)(f:α->Nat)(F:List α->Nat)(hF0:F []=0)(hFc:∀a r,F (a::r)=f a+F r)(c:Nat)(hS:∀cs x b o,R cs x->(∀(j:Nat)(v:Value),cs[j]?=some v->W.cell? ⟨b,o+j,none⟩=some v)->S W b o x)(hlen:∀cs x,R cs x->cs.length=sz)(hone:∀(cs:List Value)(m:Nat)(z:DataW H×List MemPlace),DataW.trod enc Tryz.prog W 0 (fun _=>true) true m te cs=some z->∃x,R cs x/\f x<=c*Rows.uptoBulk z.1)(h:DataW.trod enc Tryz.prog W 0 (fun _=>true) true n t [u]=some y):∃l:List α,nz sz S W u l/\F l<=c*Rows.uptoBulk y.1/\l.length<=Rows.uptoBulk y.1/\∀x∈l,f x<=c*Rows.uptoBulk y.1:=by
 obtain⟨d,p⟩:=y;rcases Deep.open_slice ht h with⟨hcs,_⟩|⟨a,len',cap',m,n,D,Pl,hcs,hb,hl,hm,hmm,hx,hel⟩
 .injection hcs with hcs;subst hcs;exact⟨[],nz.eU,by rw[hF0];exact aL _,aL _,fun x hx=>by cases hx⟩
 .injection hcs with hcs;subst hcs;simp only[if_true]at hmm;simp only[Prod.mk.injEq]at hx;obtain⟨l,hll,hle⟩:=Ry (n:=len') (P:=fun i(x:α)=>∃cs,R cs x/\(∀(j:Nat)(u:Value),cs[j]?=some u->W.cell? ((a.add (i*sz)).add j)=some u)/\f x<=c*Rows.uptoBulk (D i)) (fun i hi=>by obtain⟨cs',h1,h2⟩:=hel i (by omega);rw[hsz]at h1;obtain⟨_,hlen',hcell⟩:=World.cells?_some h1;obtain⟨x,h3,h4⟩:=hone _ _ _ h2;refine⟨x,cs',h3,fun j u hu=>?_,h4⟩;rw[hcell j (by rw[<-hlen'];exact(dh.1 hu).1)];exact hu);have hbl:Rows.uptoBulkAll ((List.range len').map D)+1<=Rows.uptoBulk d:=by rw[hx.1];simp only[Rows.uptoBulk];omega
  have hfx:∀x∈l,f x<=c*Rows.uptoBulk d:=fun x hxm=>by obtain⟨i,hi,rfl⟩:=um.1 hxm;obtain⟨cs,-,-,h3⟩:=hle i _ (aU hi);have:=KC (l:=(List.range len').map D) (d:=D i) (xu.2 ⟨i,List.mem_range.2 (by rw[<-hll];exact hi),rfl⟩);exact aG h3 (Nat.mul_le_mul_left _ (by omega))
  refine⟨l,⟨some a,cap',by rw[hll],by rw[hll];exact hl,by unfold maxLen at hm;omega,fun i x hxi=>?_,by intro h;cases h⟩,?_,?_,hfx⟩
  .obtain⟨cs,h1,h2,-⟩:=hle i x hxi;have hi:i<len':=by rw[<-hll];exact(dh.1 hxi).1
   have hsp:a.spot=none:=by obtain⟨cs0,h10,h20,-⟩:=hle 0 _ (aU (by omega:0<l.length));have h50:=hlen _ _ h10;have h0:=h20 0 _ (aU (by omega));rw[Nat.zero_mul,Deep.add_add]at h0;exact Ac h0
   refine⟨a.block,a.off,by rw[<-hsp],hS _ _ _ _ h1 fun j u hu=>?_⟩;have:=h2 j u hu;rw[Deep.add_add,Ei hsp]at this;rw[Nat.add_assoc];exact this
  .refine aG (UH f F hF0 hFc c l ((List.range len').map D) (by rw[hll];simp) (fun k x d' hk hd=>?_)) (Nat.mul_le_mul_left _ (show Rows.uptoBulkAll ((List.range len').map D)<=Rows.uptoBulk d by omega));obtain⟨cs,-,-,h3⟩:=hle k x hk;have hkl:k<len':=by rw[<-hll];exact(dh.1 hk).1
   rw[List.getElem?_map,List.getElem?_range hkl]at hd;injection hd with hd;rw[<-hd];exact h3
  .have:=yZ ((List.range len').map D);rw[fP,List.length_range]at this;show l.length<=Rows.uptoBulk d;omega
theorem Rz{W:World}{u:Value}{n:Nat}{y:DataW H×List MemPlace}(h:DataW.trod enc Tryz.prog W 0 (fun _=>true) true n 25 [u]=some y):∃l:List (List Int),Jv W u l/\SH.tot l<=Rows.uptoBulk y.1:=by
 obtain⟨l,h1,h2,-⟩:=Ad (α:=List Int) (sz:=1) Tryz.underlying25 El (by decide) (fun cs x=>∃u,cs=[u]/\ib W u x) AtT (fun t=>t.length+1) SH.tot rfl (fun _ _=>rfl) 1
  (fun cs x b o⟨u,e,h⟩hc=>⟨u,by have:=hc 0 u (by rw[e];rfl);exact this,h⟩) (fun cs x⟨u,e,_⟩=>by rw[e];rfl) (fun cs m z hz=>by
  have hl:cs.length=1:=by
   rcases open_ints eT Tryz.underlying21 (by kernel_rfl) hz with⟨hcs,_⟩|⟨a,len,cap,zs,hcs,_⟩
   .rw[hcs];rfl
   .rw[hcs];rfl
  match cs,hl with
  |[u],_=>obtain⟨xs,h1,h2⟩:=Em hz;exact⟨xs,⟨u,rfl,h1⟩,by omega⟩) h;exact⟨l,h1,by omega⟩
theorem UI{W:World}{u:Value}{n:Nat}{y:DataW H×List MemPlace}(h:DataW.trod enc Tryz.prog W 0 (fun _=>true) true n 26 [u]=some y):∃l:List FM.Form,Jw W u l/\FM.nH l<=34*Rows.uptoBulk y.1:=by
 obtain⟨l,h1,h2,-⟩:=Ad (α:=FM.Form) (sz:=5) Tryz.underlying26 Ej (by decide) (fun cs x=>PV W cs x) (fun w b o f=>∃cs,PV w cs f/\∀(i:Nat)(u:Value),cs[i]?=some u->w.cell? ⟨b,o+i,none⟩=some u) FM.sz FM.nH rfl (fun _ _=>rfl) 34
  (fun cs x b o h hc=>⟨cs,h,hc⟩) (fun cs x h=>h.five.1) (fun cs m z hz=>by obtain⟨f,h1,h2,h3⟩:=Rx hz;refine⟨f,h1,?_⟩;have:=Eh z.1;unfold FM.sz;omega) h;exact⟨l,h1,h2⟩
theorem En:Tryz.prog.cellsOf 28=9:=by kernel_rfl
theorem XU:Tryz.prog.cellsOf 4=1:=by kernel_rfl
theorem XV:Tryz.prog.cellsOf 25=1:=by kernel_rfl
theorem UJ:Tryz.prog.cellsOf 26=1:=by kernel_rfl
def NdC(W:World)(cs:List Value)(x:SH.dC):Prop:=∃vt vi vp vf,cs=De x vt vi vp vf/\nS W x vt vi vp vf
theorem GN{W:World}{cs:List Value}{n:Nat}{y:DataW H×List MemPlace}(h:DataW.trod enc Tryz.prog W 0 (fun _=>true) true n 28 cs=some y):∃x:SH.dC,NdC W cs x/\FB (34*Rows.uptoBulk y.1) x:=by
 obtain⟨xs,m,hk,rfl,hlen,hxl,hf⟩:=DataW.trod_struct Tryz.underlying28 h;rw[En]at hlen;match xs,hxl,cs,hlen with
 |[y0,y1,y2,y3,y4,y5,y6,y7,y8],_,[c0,c1,c2,c3,c4,c5,c6,c7,c8],_=>have g0:=hf 0 _ rfl;have g1:=hf 1 _ rfl;have g2:=hf 2 _ rfl;have g3:=hf 3 _ rfl;have g4:=hf 4 _ rfl;have g5:=hf 5 _ rfl;have g6:=hf 6 _ rfl;have g7:=hf 7 _ rfl;have g8:=hf 8 _ rfl;simp[PU,El,XU,XV,UJ]at g0 g1 g2 g3 g4 g5 g6 g7 g8;obtain⟨k,h0,-,-⟩:=DataW.trod_int Eo g0;obtain⟨d,h1,-,-⟩:=DataW.trod_int Eo g1;obtain⟨nm,h2,-,-⟩:=DataW.trod_int Eo g2;obtain⟨tx,ht,hlt⟩:=Em g3;obtain⟨it,hi,hli⟩:=Rz g4;obtain⟨pt,hp,hlp⟩:=Em g5;obtain⟨fo,hfo,hlf⟩:=UI g6;obtain⟨al,h7,-⟩:=DataW.trod_bool Tryz.underlying4 g7;obtain⟨fd,h8,-⟩:=DataW.trod_bool Tryz.underlying4 g8;injection h0 with h0;injection h1 with h1;injection h2 with h2;injection h7 with h7;injection h8 with h8;subst h0 h1 h2 h7 h8;refine⟨⟨k,d,nm,tx,it,pt,fo,al,fd⟩,⟨c3,c4,c5,c6,rfl,ht,hi,hp,hfo⟩,?_⟩;unfold FB;simp only[lM,mM,Rows.uptoBulk,Rows.uptoBulkAll];refine⟨?_,?_,?_,?_⟩<;>omega
theorem Nl{W:World}{base:Nat}{v:Value}{d:DataW H}{p:List MemPlace}(hok:Value.okWide Tryz.prog W .any base 28 v)(h:DataW.Trod enc Tryz.prog W 0 (fun _=>true) true 28 v d p):∃(x:SH.dC)(vt vi vp vf:Value),v=.agg (De x vt vi vp vf).toArray/\nS W x vt vi vp vf/\FB (34*Rows.uptoBulk d) x:=by obtain⟨cs,rfl,-⟩:=okWide_struct Tryz.underlying28 hok;obtain⟨fuel,hf⟩:=h;obtain⟨x,⟨vt,vi,vp,vf,h1,h2⟩,h4⟩:=GN hf;refine⟨x,vt,vi,vp,vf,?_,h2,h4⟩;have h1:cs.toList=_:=h1;rw[<-Array.toArray_toList (xs:=cs),h1]
theorem KE{W:World}{base:Nat}{v:Value}{d:DataW H}{p:List MemPlace}(hok:Value.okWide Tryz.prog W .any base 22 v)(h:DataW.Trod enc Tryz.prog W 0 (fun _=>true) true 22 v d p):∃l:List SH.dC,jH W v l/\∀x∈l,FB (34*Rows.uptoBulk d) x:=by
 obtain⟨a0,len,cap,rfl⟩:=okWide_slice lg hok;obtain⟨fuel,hf⟩:=h;have hf':DataW.trod enc Tryz.prog W 0 (fun _=>true) true fuel 22 [.slice a0 len cap]=some (d,p):=hf;obtain⟨l,h1,-,-,h4⟩:=Ad (α:=SH.dC) (sz:=9) lg En (by decide) (fun cs x=>NdC W cs x) AtN (fun x=>max (max x.text.length (SH.tot x.items)) (max x.pat.length (FM.nH x.forms))) (fun l=>l.foldr (fun x a=>max (max x.text.length (SH.tot x.items)) (max x.pat.length (FM.nH x.forms))+a) 0) rfl (fun _ _=>rfl) 34
  (fun cs x b o⟨vt,vi,vp,vf,e,h⟩hc=>⟨vt,vi,vp,vf,h,fun i u hu=>hc i u (by rw[e];exact hu)⟩) (fun cs x⟨vt,vi,vp,vf,e,_⟩=>by rw[e];rfl) (fun cs m z hz=>by obtain⟨x,h1,h2,h3,h4,h5⟩:=GN hz;exact⟨x,h1,by omega⟩) hf';exact⟨l,h1,fun x hx=>by have:=h4 x hx;dsimp only at this;refine⟨?_,?_,?_,?_⟩<;>omega⟩
end
end Go.Proofs.YtcogknbbbjnaiaaGreatDoor
