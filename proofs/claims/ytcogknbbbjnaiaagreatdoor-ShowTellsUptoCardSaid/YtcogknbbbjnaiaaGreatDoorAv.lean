/- For ShowTells: what the texts XLaw3 of wip/tpl say. -/
import Derived.Test.YtcogknbbbjnaiaaGreatDoorRows
import Derived.Test.YtcogknbbbjnaiaaGreatDoorD
import Derived.Test.YtcogknbbbjnaiaaGreatDoorU
import Derived.Deep.Slices
set_option maxRecDepth 100000
namespace Go.Proofs.YtcogknbbbjnaiaaGreatDoor
open Go.ChangeShapes Go.WideShapes Go.ChangeAt Go.RowKit
theorem Eh{H:Type}(d:DataW H):1<=Rows.uptoBulk d:=by
 cases d with
 |lit l=>cases l<;>simp[Rows.uptoBulk]
 |_=>simp[Rows.uptoBulk]
theorem yZ{H:Type}:∀l:List (DataW H),l.length<=Rows.uptoBulkAll l
|[]=>aL _
|d::r=>by have:=yZ r;have:=Eh d;simp[Rows.uptoBulkAll];omega
theorem KC{H:Type}:∀{l:List (DataW H)}{d:DataW H},d∈l->Rows.uptoBulk d<=Rows.uptoBulkAll l
|[],_,h=>by simp at h
|e::r,d,h=>by
 simp only[Rows.uptoBulkAll];rcases List.mem_cons.1 h with rfl|h
 .omega
 .have:=KC h;omega
theorem Ac{W:World}{a:Addr}{v:Value}(h0:W.cell? (a.add 0)=some v):a.spot=none:=by
 unfold Addr.add at h0;simp only[if_true]at h0;unfold World.cell? at h0;split at h0
 .split at h0
  .cases h0
  .rename_i hs;simpa using hs
 .cases h0
theorem Ei{a:Addr}(h:a.spot=none)(i:Nat):a.add i=⟨a.block,a.off+i,none⟩:=by
 unfold Addr.add;split
 .rename_i h2;subst h2;rw[fB,<-h]
 .rfl
section
variable{H:Type}{enc:TypeId×Value->H}
theorem KD{W:World}{u:Value}{n:Nat}{y:DataW H×List MemPlace}(h:DataW.trod enc Tryz.prog W 0 (fun _=>true) true n 24 [u]=some y):∃xs:List Int,ib W u xs/\xs.length<=Rows.uptoBulk y.1:=by
 have hc:Tryz.prog.cellsOf 21=1:=by kernel_rfl
 rcases open_ints eT Tryz.underlying21 hc h with⟨hcs,_⟩|⟨a,len,cap,zs,hcs,_,hl,hm,hz,hx,hcell,hwz⟩
 .injection hcs with hcs;subst hcs;exact⟨[],nz.eU,aL _⟩
 .injection hcs with hcs;subst hcs;simp only[if_true]at hz;have hlz:(zs.take len).length=len:=by rw[kg];omega
  refine⟨zs.take len,⟨some a,cap,by rw[hlz],by rw[hlz];exact hl,by unfold maxLen at hm;omega,fun i x hx=>?_,by intro h;cases h⟩,?_⟩
  .have hi:i<len:=by
    rcases fC i len with h|h
    .exact h
    .rw[gD (by omega)]at hx;cases hx
   have hsp:=Ac (hcell 0 (by omega));refine⟨a.block,a.off,by rw[<-hsp],?_⟩;have hi':=hcell i (by omega);have hx':zs.getD i 0=x:=by rw[pY,av hi]at hx;simp[List.getD,hx]
   rw[hx',Ei hsp]at hi';rw[sU];exact hi'
  .rw[hx];simp only[Rows.uptoBulk];refine aG (aG ?_ (yZ _)) (aG (Nat.le_add_right _ _) (Nat.le_add_right _ _));simp only[lits,fP];exact az _
theorem Ej:Tryz.prog.cellsOf 109=5:=by kernel_rfl
theorem El:Tryz.prog.cellsOf 24=1:=by kernel_rfl
theorem PU:Tryz.prog.cellsOf 3=1:=by kernel_rfl
theorem Rx{W:World}{cs:List Value}{n:Nat}{y:DataW H×List MemPlace}(h:DataW.trod enc Tryz.prog W 0 (fun _=>true) true n 109 cs=some y):∃f:FM.Form,PV W cs f/\f.text.length<=Rows.uptoBulk y.1/\f.els.length<=Rows.uptoBulk y.1:=by
 obtain⟨xs,m,hk,rfl,hlen,hxl,hf⟩:=DataW.trod_struct Tryz.underlying109 h;rw[Ej]at hlen;match xs,hxl,cs,hlen with
 |[y0,y1,y2,y3,y4],_,[c0,c1,c2,c3,c4],_=>
  have g0:=hf 0 _ rfl;have g1:=hf 1 _ rfl;have g2:=hf 2 _ rfl;have g3:=hf 3 _ rfl;have g4:=hf 4 _ rfl;simp[PU,El]at g0 g1 g2 g3 g4;obtain⟨k,h0,-,-⟩:=DataW.trod_int Tryz.underlying3 g0;obtain⟨g,h1,-,-⟩:=DataW.trod_int Tryz.underlying3 g1;obtain⟨c,h2,-,-⟩:=DataW.trod_int Tryz.underlying3 g2;obtain⟨tx,ht,hlt⟩:=KD g3;obtain⟨es,he,hle⟩:=KD g4;injection h0 with h0;injection h1 with h1;injection h2 with h2;subst h0 h1 h2;refine⟨⟨k,g,c,tx,es⟩,⟨c3,c4,rfl,ht,he⟩,?_,?_⟩
  .simp only[lM,mM,Rows.uptoBulk,Rows.uptoBulkAll];omega
  .simp only[lM,mM,Rows.uptoBulk,Rows.uptoBulkAll];omega
end
end Go.Proofs.YtcogknbbbjnaiaaGreatDoor
