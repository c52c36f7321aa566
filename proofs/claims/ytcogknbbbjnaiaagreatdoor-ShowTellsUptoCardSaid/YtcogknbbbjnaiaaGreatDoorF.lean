/- For ShowTells: what the texts XMini of wip/tpl say. -/
import Derived.WalkKit
import Derived.Lib.Hide
namespace Go.Proofs.YtcogknbbbjnaiaaGreatDoor
open Go.RowKit
def Hd(p:Prop):Prop:=p
theorem Hd.o{p:Prop}(h:Hd p):p:=h
theorem jd{p:Prop}(h:p):Hd p:=h
theorem cy{w:World}{g:Nat}{cs:Array Value}{t:TypeId}{fr:Nat×Nat}(j:Nat)(h:w.heap[g]?=some (.cells cs t fr)):w.cell? ⟨g,j,none⟩=cs[j]?:=cell_of_row w g j _ _ _ h
theorem fq{w:World}{g:Nat}{cs:Array Value}{t:TypeId}(j:Nat)(h:w.heap[g]?=some (.cells cs t (0,0))):w.frozen? ⟨g,j,none⟩=false:=frozen_of_row w g j _ _ h
theorem WQ{w:World}{g:Nat}{cs:Array Value}{t:TypeId}{fr:Nat×Nat}(h:w.heap[g]?=some (.cells cs t fr)):w.cell? ⟨g,0,none⟩=cs[0]?/\w.cell? ⟨g,1,none⟩=cs[1]?:=⟨cy 0 h,cy 1 h⟩
theorem cc3{w:World}{g:Nat}{cs:Array Value}{t:TypeId}{fr:Nat×Nat}(h:w.heap[g]?=some (.cells cs t fr)):w.cell? ⟨g,0,none⟩=cs[0]?/\w.cell? ⟨g,1,none⟩=cs[1]?/\w.cell? ⟨g,2,none⟩=cs[2]?:=⟨cy 0 h,cy 1 h,cy 2 h⟩
theorem cc4{w:World}{g:Nat}{cs:Array Value}{t:TypeId}{fr:Nat×Nat}(h:w.heap[g]?=some (.cells cs t fr)):w.cell? ⟨g,0,none⟩=cs[0]?/\w.cell? ⟨g,1,none⟩=cs[1]?/\w.cell? ⟨g,2,none⟩=cs[2]?/\w.cell? ⟨g,3,none⟩=cs[3]?:=⟨cy 0 h,cy 1 h,cy 2 h,cy 3 h⟩
theorem cc5{w:World}{g:Nat}{cs:Array Value}{t:TypeId}{fr:Nat×Nat}(h:w.heap[g]?=some (.cells cs t fr)):w.cell? ⟨g,0,none⟩=cs[0]?/\w.cell? ⟨g,1,none⟩=cs[1]?/\w.cell? ⟨g,2,none⟩=cs[2]?/\w.cell? ⟨g,3,none⟩=cs[3]?/\w.cell? ⟨g,4,none⟩=cs[4]?:=⟨cy 0 h,cy 1 h,cy 2 h,cy 3 h,cy 4 h⟩
theorem cc7{w:World}{g:Nat}{cs:Array Value}{t:TypeId}{fr:Nat×Nat}(h:w.heap[g]?=some (.cells cs t fr)):w.cell? ⟨g,0,none⟩=cs[0]?/\w.cell? ⟨g,1,none⟩=cs[1]?/\w.cell? ⟨g,2,none⟩=cs[2]?/\w.cell? ⟨g,3,none⟩=cs[3]?/\w.cell? ⟨g,4,none⟩=cs[4]?/\w.cell? ⟨g,5,none⟩=cs[5]?/\w.cell? ⟨g,6,none⟩=cs[6]?:=⟨cy 0 h,cy 1 h,cy 2 h,cy 3 h,cy 4 h,cy 5 h,cy 6 h⟩
theorem BH{w:World}{g:Nat}{cs:Array Value}{t:TypeId}{fr:Nat×Nat}(h:w.heap[g]?=some (.cells cs t fr)):w.cell? ⟨g,0,none⟩=cs[0]?/\w.cell? ⟨g,1,none⟩=cs[1]?/\w.cell? ⟨g,2,none⟩=cs[2]?/\w.cell? ⟨g,3,none⟩=cs[3]?/\w.cell? ⟨g,4,none⟩=cs[4]?/\w.cell? ⟨g,5,none⟩=cs[5]?/\w.cell? ⟨g,6,none⟩=cs[6]?/\w.cell? ⟨g,7,none⟩=cs[7]?/\w.cell? ⟨g,8,none⟩=cs[8]?:=⟨cy 0 h,cy 1 h,cy 2 h,cy 3 h,cy 4 h,cy 5 h,cy 6 h,cy 7 h,cy 8 h⟩
theorem jf1{w:World}{g:Nat}{cs:Array Value}{t:TypeId}(h:w.heap[g]?=some (.cells cs t (0,0))):w.cell? ⟨g,0,none⟩=cs[0]?/\w.frozen? ⟨g,0,none⟩=false:=⟨cy 0 h,fq 0 h⟩
theorem PW{w:World}{g:Nat}{cs:Array Value}{t:TypeId}(h:w.heap[g]?=some (.cells cs t (0,0))):w.cell? ⟨g,0,none⟩=cs[0]?/\w.cell? ⟨g,1,none⟩=cs[1]?/\w.frozen? ⟨g,0,none⟩=false/\w.frozen? ⟨g,1,none⟩=false:=⟨cy 0 h,cy 1 h,fq 0 h,fq 1 h⟩
theorem jf3{w:World}{g:Nat}{cs:Array Value}{t:TypeId}(h:w.heap[g]?=some (.cells cs t (0,0))):w.cell? ⟨g,0,none⟩=cs[0]?/\w.cell? ⟨g,1,none⟩=cs[1]?/\w.cell? ⟨g,2,none⟩=cs[2]?/\w.frozen? ⟨g,0,none⟩=false/\w.frozen? ⟨g,1,none⟩=false/\w.frozen? ⟨g,2,none⟩=false:=⟨cy 0 h,cy 1 h,cy 2 h,fq 0 h,fq 1 h,fq 2 h⟩
theorem jf4{w:World}{g:Nat}{cs:Array Value}{t:TypeId}(h:w.heap[g]?=some (.cells cs t (0,0))):w.cell? ⟨g,0,none⟩=cs[0]?/\w.cell? ⟨g,1,none⟩=cs[1]?/\w.cell? ⟨g,2,none⟩=cs[2]?/\w.cell? ⟨g,3,none⟩=cs[3]?/\w.frozen? ⟨g,0,none⟩=false/\w.frozen? ⟨g,1,none⟩=false/\w.frozen? ⟨g,2,none⟩=false/\w.frozen? ⟨g,3,none⟩=false:=⟨cy 0 h,cy 1 h,cy 2 h,cy 3 h,fq 0 h,fq 1 h,fq 2 h,fq 3 h⟩
theorem y9{w:World}{g:Nat}{cs:Array Value}{t:TypeId}(h:w.heap[g]?=some (.cells cs t (0,0))):w.cell? ⟨g,0,none⟩=cs[0]?/\w.cell? ⟨g,1,none⟩=cs[1]?/\w.cell? ⟨g,2,none⟩=cs[2]?/\w.cell? ⟨g,3,none⟩=cs[3]?/\w.cell? ⟨g,4,none⟩=cs[4]?/\w.frozen? ⟨g,0,none⟩=false/\w.frozen? ⟨g,1,none⟩=false/\w.frozen? ⟨g,2,none⟩=false/\w.frozen? ⟨g,3,none⟩=false/\w.frozen? ⟨g,4,none⟩=false:=⟨cy 0 h,cy 1 h,cy 2 h,cy 3 h,cy 4 h,fq 0 h,fq 1 h,fq 2 h,fq 3 h,fq 4 h⟩
theorem jf6{w:World}{g:Nat}{cs:Array Value}{t:TypeId}(h:w.heap[g]?=some (.cells cs t (0,0))):w.cell? ⟨g,0,none⟩=cs[0]?/\w.cell? ⟨g,1,none⟩=cs[1]?/\w.cell? ⟨g,2,none⟩=cs[2]?/\w.cell? ⟨g,3,none⟩=cs[3]?/\w.cell? ⟨g,4,none⟩=cs[4]?/\w.cell? ⟨g,5,none⟩=cs[5]?/\w.frozen? ⟨g,0,none⟩=false/\w.frozen? ⟨g,1,none⟩=false/\w.frozen? ⟨g,2,none⟩=false/\w.frozen? ⟨g,3,none⟩=false/\w.frozen? ⟨g,4,none⟩=false/\w.frozen? ⟨g,5,none⟩=false:=⟨cy 0 h,cy 1 h,cy 2 h,cy 3 h,cy 4 h,cy 5 h,fq 0 h,fq 1 h,fq 2 h,fq 3 h,fq 4 h,fq 5 h⟩
theorem jf7{w:World}{g:Nat}{cs:Array Value}{t:TypeId}(h:w.heap[g]?=some (.cells cs t (0,0))):w.cell? ⟨g,0,none⟩=cs[0]?/\w.cell? ⟨g,1,none⟩=cs[1]?/\w.cell? ⟨g,2,none⟩=cs[2]?/\w.cell? ⟨g,3,none⟩=cs[3]?/\w.cell? ⟨g,4,none⟩=cs[4]?/\w.cell? ⟨g,5,none⟩=cs[5]?/\w.cell? ⟨g,6,none⟩=cs[6]?/\w.frozen? ⟨g,0,none⟩=false/\w.frozen? ⟨g,1,none⟩=false/\w.frozen? ⟨g,2,none⟩=false/\w.frozen? ⟨g,3,none⟩=false/\w.frozen? ⟨g,4,none⟩=false/\w.frozen? ⟨g,5,none⟩=false/\w.frozen? ⟨g,6,none⟩=false:=⟨cy 0 h,cy 1 h,cy 2 h,cy 3 h,cy 4 h,cy 5 h,cy 6 h,fq 0 h,fq 1 h,fq 2 h,fq 3 h,fq 4 h,fq 5 h,fq 6 h⟩
theorem xz{w:World}{g:Nat}{cs:Array Value}{t:TypeId}(h:w.heap[g]?=some (.cells cs t (0,0))):w.cell? ⟨g,0,none⟩=cs[0]?/\w.cell? ⟨g,1,none⟩=cs[1]?/\w.cell? ⟨g,2,none⟩=cs[2]?/\w.cell? ⟨g,3,none⟩=cs[3]?/\w.cell? ⟨g,4,none⟩=cs[4]?/\w.cell? ⟨g,5,none⟩=cs[5]?/\w.cell? ⟨g,6,none⟩=cs[6]?/\w.cell? ⟨g,7,none⟩=cs[7]?/\w.cell? ⟨g,8,none⟩=cs[8]?/\w.frozen? ⟨g,0,none⟩=false/\w.frozen? ⟨g,1,none⟩=false/\w.frozen? ⟨g,2,none⟩=false/\w.frozen? ⟨g,3,none⟩=false/\w.frozen? ⟨g,4,none⟩=false/\w.frozen? ⟨g,5,none⟩=false/\w.frozen? ⟨g,6,none⟩=false/\w.frozen? ⟨g,7,none⟩=false/\w.frozen? ⟨g,8,none⟩=false:=⟨cy 0 h,cy 1 h,cy 2 h,cy 3 h,cy 4 h,cy 5 h,cy 6 h,cy 7 h,cy 8 h,fq 0 h,fq 1 h,fq 2 h,fq 3 h,fq 4 h,fq 5 h,fq 6 h,fq 7 h,fq 8 h⟩
theorem gf9{w:World}{g:Nat}{cs:Array Value}{t:TypeId}(h:w.heap[g]?=some (.cells cs t (0,0))):w.frozen? ⟨g,0,none⟩=false/\w.frozen? ⟨g,1,none⟩=false/\w.frozen? ⟨g,2,none⟩=false/\w.frozen? ⟨g,3,none⟩=false/\w.frozen? ⟨g,4,none⟩=false/\w.frozen? ⟨g,5,none⟩=false/\w.frozen? ⟨g,6,none⟩=false/\w.frozen? ⟨g,7,none⟩=false/\w.frozen? ⟨g,8,none⟩=false:=⟨fq 0 h,fq 1 h,fq 2 h,fq 3 h,fq 4 h,fq 5 h,fq 6 h,fq 7 h,fq 8 h⟩
abbrev ai:=@List.length_append
abbrev ae:=@if_neg
abbrev aF:=@List.length_cons
abbrev az:=@Nat.le_refl
abbrev aB:=@heap_alloc_new
abbrev aU:=@List.getElem?_eq_getElem
abbrev aG:=@Nat.le_trans
abbrev aN:=@List.length_nil
abbrev av:=@if_pos
abbrev dh:=@List.getElem?_eq_some_iff
abbrev aL:=@Nat.zero_le
abbrev aM:=@Calls.mono
abbrev ed:=@List.drop_eq_getElem_cons
abbrev bK:=@List.getElem_mem
abbrev bR:=@decide_eq_false
abbrev bJ:=@decide_eq_true
abbrev bC:=@bodyPost_ret
abbrev gD:=@List.getElem?_eq_none
abbrev fP:=@List.length_map
abbrev kE:=@List.take_succ_eq_append_getElem
abbrev gq:=@List.length_pos_iff
abbrev jR:=@Bool.and_eq_true
abbrev iP:=@World.block_lt_of_cell?
abbrev fC:=@Nat.lt_or_ge
abbrev lK:=@List.getElem?_append_left
abbrev nN:=@List.getElem?_append_right
abbrev jf:=@decide_eq_true_eq
abbrev Br:=@Option.map_eq_some_iff
abbrev jg:=@List.drop_eq_nil_of_le
abbrev iU:=@List.append_nil
abbrev iN:=@List.mem_append
abbrev fB:=@Nat.add_zero
abbrev gK:=@List.length_set
abbrev jU:=@List.length_drop
abbrev lL:=@List.append_assoc
abbrev jF:=@World.grownBy.size
abbrev lM:=@List.map_cons
abbrev fD:=@info_parts
abbrev kg:=@List.length_take
abbrev jS:=@List.map_append
abbrev ko:=@Int.toNat_natCast
abbrev oJ:=@World.cell?_alloc_new
abbrev pU:=@List.take_of_length_le
abbrev jA:=@IntWalk.i64_in
abbrev xk:=@List.flatten_cons
abbrev mJ:=@Nat.lt_of_lt_of_le
abbrev oP:=@List.getElem?_set_ne
abbrev Bv:=@List.eq_nil_of_length_eq_zero
abbrev pY:=@List.getElem?_take
abbrev jG:=@Nat.le_of_eq
abbrev xu:=@List.mem_map
abbrev qK:=@List.flatten_append
abbrev tC:=@Nat.mul_le_mul_right
abbrev mM:=@List.map_nil
abbrev tJ:=@List.mem_of_getElem?
abbrev yC:=@Nat.mul_le_mul
abbrev uH:=@List.getElem?_set_self
abbrev tK:=@Int.le_refl
abbrev uz:=@of_decide_eq_true
abbrev um:=@List.mem_iff_getElem
abbrev sV:=@World.grownBy.refl
abbrev xm:=@Nat.eq_zero_or_pos
abbrev uj:=@beq_eq_false_iff_ne
abbrev Dr:=@List.flatten_singleton
abbrev qX:=@List.head?_drop
abbrev pJ:=@Nat.add_mul
abbrev BA:=@List.nil_append
abbrev tH:=@Option.map_map
abbrev sU:=@Nat.mul_one
abbrev xg:=@Option.some.inj
abbrev Er:=@decide_eq_false_iff_not
abbrev yO:=@List.all_eq_true
abbrev xh:=@List.take_length
abbrev nM:=@beq_iff_eq
end Go.Proofs.YtcogknbbbjnaiaaGreatDoor
