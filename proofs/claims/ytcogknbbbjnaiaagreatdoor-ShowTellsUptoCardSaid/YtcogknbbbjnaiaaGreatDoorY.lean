/- For ShowTells: what the texts XShIt of wip/tpl say. -/
import Derived.Test.YtcogknbbbjnaiaaGreatDoorR
import Derived.Shelf.Strconv.Itoa3
import Derived.Lib.AppendIntMem
namespace Go.Proofs.YtcogknbbbjnaiaaGreatDoor
open Go.Shelf Go.RowKit
abbrev Eo:=@Tryz.underlying3
def Tryz.Jk:Go.Shelf.Ren:=⟨fun|171=>52|243=>76|246=>98|283=>109|284=>110|285=>111|286=>112|129=>126|317=>125|318=>127|319=>128|320=>129|337=>143|338=>144|n=>n,fun|3=>3|9=>9|2=>2|4=>4|171=>141|0=>0|53=>142|37=>145|5=>5|173=>146|212=>160|51=>161|20=>20|213=>162|46=>163|232=>183|233=>184|n=>n,fun|17=>0|18=>1|19=>2|n=>n⟩
theorem Tryz.VW:LaysM.n171 Tryz.prog Tryz.Jk:={
 mixed:=by kernel_rfl
 f129:=Tryz.func126.trans (congrArg some (by kernel_rfl)),f171:=Tryz.func52.trans (congrArg some (by kernel_rfl)),f243:=Tryz.func76.trans (congrArg some (by kernel_rfl)),f246:=Tryz.func98.trans (congrArg some (by kernel_rfl)),f283:=Tryz.func109.trans (congrArg some (by kernel_rfl)),f284:=Tryz.func110.trans (congrArg some (by kernel_rfl)),f285:=Tryz.func111.trans (congrArg some (by kernel_rfl)),f286:=Tryz.func112.trans (congrArg some (by kernel_rfl)),f317:=Tryz.func125.trans (congrArg some (by kernel_rfl)),f318:=Tryz.func127.trans (congrArg some (by kernel_rfl)),f319:=Tryz.func128.trans (congrArg some (by kernel_rfl)),f320:=Tryz.func129.trans (congrArg some (by kernel_rfl)),f337:=Tryz.func143.trans (congrArg some (by kernel_rfl)),f338:=Tryz.func144.trans (congrArg some (by kernel_rfl)),t0:=Tryz.underlying0,a0:=Tryz.isAgg0,z0:=Tryz.sizeOf0,v0:=Tryz.zeroValue0,t2:=Tryz.underlying2,a2:=Tryz.isAgg2,z2:=Tryz.sizeOf2,v2:=Tryz.zeroValue2,t3:=Eo,a3:=Tryz.isAgg3,z3:=Tryz.sizeOf3,v3:=Tryz.zeroValue3,t4:=Tryz.underlying4,a4:=Tryz.isAgg4,z4:=Tryz.sizeOf4,v4:=Tryz.zeroValue4,t5:=Tryz.underlying5,a5:=Tryz.isAgg5,z5:=Tryz.sizeOf5,v5:=Tryz.zeroValue5,t9:=Tryz.underlying9,a9:=Tryz.isAgg9,z9:=Tryz.sizeOf9,v9:=Tryz.zeroValue9,t20:=Tryz.underlying20,a20:=Tryz.isAgg20,z20:=Tryz.sizeOf20,v20:=Tryz.zeroValue20,t37:=Tryz.underlying145,a37:=Tryz.isAgg145,z37:=Tryz.sizeOf145,v37:=Tryz.zeroValue145,t46:=Tryz.underlying163,a46:=Tryz.isAgg163,z46:=Tryz.sizeOf163,v46:=Tryz.zeroValue163,t51:=Tryz.underlying161,a51:=Tryz.isAgg161,z51:=Tryz.sizeOf161,v51:=Tryz.zeroValue161,t53:=Tryz.underlying142,a53:=Tryz.isAgg142,z53:=Tryz.sizeOf142,v53:=Tryz.zeroValue142,t171:=Tryz.underlying141,a171:=Tryz.isAgg141,z171:=Tryz.sizeOf141,v171:=Tryz.zeroValue141,t173:=Tryz.underlying146,a173:=Tryz.isAgg146,z173:=Tryz.sizeOf146,v173:=Tryz.zeroValue146,t212:=Tryz.underlying160,a212:=Tryz.isAgg160,z212:=Tryz.sizeOf160,v212:=Tryz.zeroValue160,t213:=Tryz.underlying162,a213:=Tryz.isAgg162,z213:=Tryz.sizeOf162,t232:=Tryz.underlying183,a232:=Tryz.isAgg183,z232:=Tryz.sizeOf183,v232:=Tryz.zeroValue183,t233:=Tryz.underlying184,a233:=Tryz.isAgg184,z233:=Tryz.sizeOf184,v233:=Tryz.zeroValue184,g17:=by kernel_rfl
 g18:=by kernel_rfl
 g19:=by kernel_rfl
 i0:=by kernel_rfl
 i2:=by kernel_rfl
 i3:=by kernel_rfl
 i4:=by kernel_rfl
 i5:=by kernel_rfl
 i9:=by kernel_rfl
 i20:=by kernel_rfl
 i37:=by kernel_rfl
 i46:=by kernel_rfl
 i51:=by kernel_rfl
 i53:=by kernel_rfl
 i171:=by kernel_rfl
 i173:=by kernel_rfl
 i212:=by kernel_rfl
 i232:=by kernel_rfl
 i233:=by kernel_rfl
 m17:=by kernel_rfl
 m18:=by kernel_rfl
 m19:=by kernel_rfl}
def Tb(w:World):Prop:=Lib.TabIs Tryz.prog w "internal/strconv.uint64pow10" .u64 Lib.pow10Tab
theorem Tb.ext{w w':World}(h:Tb w)(a:Ext w w'):Tb w':=Lib.tabBelow_of_tabIs h w' a
theorem OM{u:Nat}(h:u<10):Lib.decDigits u=[UInt8.ofNat (48+u)]:=by rw[Lib.decDigits,dif_pos h]
theorem Qx{u:Nat}(h:¬u<10):Lib.decDigits u=Lib.decDigits (u/10)++[UInt8.ofNat (48+u%10)]:=by rw[Lib.decDigits,dif_neg h]
theorem rC{u:Nat}(h:u<10):((UInt8.ofNat (48+u)).toNat:Int)=48+(u:Int):=by rw[UInt8.toNat_ofNat'];omega
theorem OO(n:Nat)(h:n<=999):signs ⟨(Lib.itoa (n:Int)).toArray⟩=SH.dec n:=by
 unfold Lib.itoa SH.dec signs;rw[ae (by omega),ko];by_cases a:n<10
 .rw[av (by omega),OM a];simp only[lM,mM,rC a]
 rw[ae (by omega),Qx a];by_cases d:n<100
 .rw[av (by omega),OM (show n/10<10 by omega)];simp only[lM,mM,List.cons_append,BA,rC (show n/10<10 by omega),rC (show n%10<10 by omega)];simp
 .rw[ae (by omega),Qx (show¬n/10<10 by omega),OM (show n/10/10<10 by omega)];simp only[lM,mM,List.cons_append,BA,rC (show n/10/10<10 by omega),rC (show n/10%10<10 by omega),rC (show n%10<10 by omega)];rw[Nat.div_div_eq_div_mul];simp
def acG(n:Int)(w:World)(e:Ending)(w':World):Prop:=∃b:ByteArray,e=.returned (.string b)/\signs b=SH.dec n/\Ext w w'
theorem vZ(n:Int)(d:0<=n)(f:n<=999)(w:World)(a:Tb w):Calls Tryz.prog 52 #[.int .i64 n] w (acG n w):=by refine(Any.strconv_Itoa Tryz.VW n (by omega) (by omega) w a).mono ?_;rintro e h⟨rfl,k,os,rfl⟩;obtain⟨m,rfl⟩:∃m:Nat,n=m:=⟨n.toNat,by omega⟩;exact⟨_,rfl,OO m (by omega),Lib.below_grow _ w (az _) k os⟩
theorem sP(n:Int)(d:0<=n)(e:n<=999):∀x∈SH.dec n,x<128:=by
 unfold SH.dec;intro x a;split at a
 .simp at a;omega
 split at a
 .simp at a;omega
 .simp at a;omega
theorem lC(n:Int):1<=(SH.dec n).length/\(SH.dec n).length<=3:=by
 unfold SH.dec;split
 .simp
 split<;>simp
end Go.Proofs.YtcogknbbbjnaiaaGreatDoor
