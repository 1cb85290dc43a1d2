/- The types of the program as the abstract runs see them. Printed by gen_te.py. No condition. -/
import Derived.Test.YtogajjgmcnjkbaaGreatMc
import Derived.KernelRfl
import Derived.Test.YtogajjgmcnjkbaaGreatProg
namespace Go.Proofs.YtogajjgmcnjkbaaGreat.Ab
open Go.RowKit
def De:List (Nat × TI)→Nat→Option TI
 | [],_=>none
 | p::l,t=>bif Nat.beq t p.1 then some p.2 else De l t
def HJ (P:Program):List (Nat × TI)→Prop
 | []=>True
 | p::l=>b9 P p.1 p.2∧HJ P l
theorem zw {P:Program} : ∀ {l:List (Nat × TI)},HJ P l→∀ t i,De l t=some i→b9 P t i
 | [],_,t,i,h=>by cases h
 | p::l,hl,t,i,h=>by
  simp only[De]at h
  cases hb:Nat.beq t p.1 with
  | true=>
   rw[hb]at h
   simp only[cond_true,Option.some.injEq]at h
   have:=Nat.eq_of_beq_eq_true hb
   subst this h
   exact hl.1
  | false=>rw[hb]at h;exact zw hl.2 t i h
def ti3:TI:=⟨1,8,[.v (.int .i64 0)],.sc (.int .i64)⟩
theorem tok3:b9 Tryz.prog 3 ti3:=⟨by kernel_rfl,by simp[ti3,aD,Value.oneCell'],⟨Tryz.underlying3,trivial⟩⟩
def ti4:TI:=⟨1,1,[.v (.bool false)],.sc .bool⟩
theorem tok4:b9 Tryz.prog 4 ti4:=⟨by kernel_rfl,by simp[ti4,aD,Value.oneCell'],⟨Tryz.underlying4,trivial⟩⟩
def ti2:TI:=⟨1,8,[.v (.int .i64 0)],.sc (.int .i64)⟩
theorem tok2:b9 Tryz.prog 2 ti2:=⟨by kernel_rfl,by simp[ti2,aD,Value.oneCell'],⟨Tryz.underlying2,trivial⟩⟩
def ti5:TI:=⟨1,1,[.v (.int .u8 0)],.sc (.int .u8)⟩
theorem tok5:b9 Tryz.prog 5 ti5:=⟨by kernel_rfl,by simp[ti5,aD,Value.oneCell'],⟨Tryz.underlying5,trivial⟩⟩
def ti6:TI:=⟨1,1,[.v (.int .u8 0)],.sc (.int .u8)⟩
theorem tok6:b9 Tryz.prog 6 ti6:=⟨by kernel_rfl,by simp[ti6,aD,Value.oneCell'],⟨Tryz.underlying6,trivial⟩⟩
def ti7:TI:=⟨4,24,[.v (.int .i64 0),.v (.int .i64 0),.v (.bool false),.v (.int .u8 0)],.st [(0,2),(1,3),(2,4),(3,6)]⟩
theorem tok7:b9 Tryz.prog 7 ti7:=⟨by kernel_rfl,by simp[ti7,aD,Value.oneCell'],⟨_,Tryz.underlying7,rfl⟩⟩
def ti8:TI:=⟨4,24,[.v (.int .i64 0),.v (.int .i64 0),.v (.bool false),.v (.int .u8 0)],.st [(0,2),(1,3),(2,4),(3,6)]⟩
theorem tok8:b9 Tryz.prog 8 ti8:=⟨by kernel_rfl,by simp[ti8,aD,Value.oneCell'],⟨_,Tryz.underlying8,rfl⟩⟩
def ti9:TI:=⟨1,16,[.v (.string ⟨#[]⟩)],.sc .string⟩
theorem tok9:b9 Tryz.prog 9 ti9:=⟨by kernel_rfl,by simp[ti9,aD,Value.oneCell'],⟨Tryz.underlying9,trivial⟩⟩
def ti10:TI:=⟨1,16,[.v (.string ⟨#[]⟩)],.sc .string⟩
theorem tok10:b9 Tryz.prog 10 ti10:=⟨by kernel_rfl,by simp[ti10,aD,Value.oneCell'],⟨Tryz.underlying10,trivial⟩⟩
def ti11:TI:=⟨1,16,[.v (.string ⟨#[]⟩)],.sc .string⟩
theorem tok11:b9 Tryz.prog 11 ti11:=⟨by kernel_rfl,by simp[ti11,aD,Value.oneCell'],⟨Tryz.underlying11,trivial⟩⟩
def ti12:TI:=⟨1,8,[.v (.int .u64 0)],.sc (.int .u64)⟩
theorem tok12:b9 Tryz.prog 12 ti12:=⟨by kernel_rfl,by simp[ti12,aD,Value.oneCell'],⟨Tryz.underlying12,trivial⟩⟩
def ti13:TI:=⟨2,24,[.v (.string ⟨#[]⟩),.v (.int .u64 0)],.st [(0,9),(1,12)]⟩
theorem tok13:b9 Tryz.prog 13 ti13:=⟨by kernel_rfl,by simp[ti13,aD,Value.oneCell'],⟨_,Tryz.underlying13,rfl⟩⟩
def ti14:TI:=⟨2,24,[.v (.string ⟨#[]⟩),.v (.int .u64 0)],.st [(0,9),(1,12)]⟩
theorem tok14:b9 Tryz.prog 14 ti14:=⟨by kernel_rfl,by simp[ti14,aD,Value.oneCell'],⟨_,Tryz.underlying14,rfl⟩⟩
def ti21:TI:=⟨1,4,[.v (.int .i32 0)],.sc (.int .i32)⟩
theorem tok21:b9 Tryz.prog 21 ti21:=⟨by kernel_rfl,by simp[ti21,aD,Value.oneCell'],⟨Tryz.underlying21,trivial⟩⟩
def ti22:TI:=⟨1,24,[.z],.sl 31⟩
theorem tok22:b9 Tryz.prog 22 ti22:=⟨by kernel_rfl,by simp[ti22,aD,Value.oneCell'],Tryz.underlying22⟩
def ti23:TI:=⟨1,24,[.z],.sl 4⟩
theorem tok23:b9 Tryz.prog 23 ti23:=⟨by kernel_rfl,by simp[ti23,aD,Value.oneCell'],Tryz.underlying23⟩
def ti24:TI:=⟨2,48,[.z,.z],.st [(0,22),(1,23)]⟩
theorem tok24:b9 Tryz.prog 24 ti24:=⟨by kernel_rfl,by simp[ti24,aD,Value.oneCell'],⟨_,Tryz.underlying24,rfl⟩⟩
def ti25:TI:=⟨2,48,[.z,.z],.st [(0,22),(1,23)]⟩
theorem tok25:b9 Tryz.prog 25 ti25:=⟨by kernel_rfl,by simp[ti25,aD,Value.oneCell'],⟨_,Tryz.underlying25,rfl⟩⟩
def ti26:TI:=⟨1,24,[.z],.sl 338⟩
theorem tok26:b9 Tryz.prog 26 ti26:=⟨by kernel_rfl,by simp[ti26,aD,Value.oneCell'],Tryz.underlying26⟩
def ti27:TI:=⟨1,24,[.z],.st [(0,26)]⟩
theorem tok27:b9 Tryz.prog 27 ti27:=⟨by kernel_rfl,by simp[ti27,aD,Value.oneCell'],⟨_,Tryz.underlying27,rfl⟩⟩
def ti28:TI:=⟨1,24,[.z],.st [(0,26)]⟩
theorem tok28:b9 Tryz.prog 28 ti28:=⟨by kernel_rfl,by simp[ti28,aD,Value.oneCell'],⟨_,Tryz.underlying28,rfl⟩⟩
def ti29:TI:=⟨3,72,[.z,.z,.z],.st [(0,25),(2,28)]⟩
theorem tok29:b9 Tryz.prog 29 ti29:=⟨by kernel_rfl,by simp[ti29,aD,Value.oneCell'],⟨_,Tryz.underlying29,rfl⟩⟩
def ti30:TI:=⟨3,72,[.z,.z,.z],.st [(0,25),(2,28)]⟩
theorem tok30:b9 Tryz.prog 30 ti30:=⟨by kernel_rfl,by simp[ti30,aD,Value.oneCell'],⟨_,Tryz.underlying30,rfl⟩⟩
def ti31:TI:=⟨1,24,[.z],.sl 3⟩
theorem tok31:b9 Tryz.prog 31 ti31:=⟨by kernel_rfl,by simp[ti31,aD,Value.oneCell'],Tryz.underlying31⟩
def ti32:TI:=⟨5,104,[.z,.z,.z,.v (.int .i64 0),.z],.st [(0,30),(3,3),(4,31)]⟩
theorem tok32:b9 Tryz.prog 32 ti32:=⟨by kernel_rfl,by simp[ti32,aD,Value.oneCell'],⟨_,Tryz.underlying32,rfl⟩⟩
def ti33:TI:=⟨5,104,[.z,.z,.z,.v (.int .i64 0),.z],.st [(0,30),(3,3),(4,31)]⟩
theorem tok33:b9 Tryz.prog 33 ti33:=⟨by kernel_rfl,by simp[ti33,aD,Value.oneCell'],⟨_,Tryz.underlying33,rfl⟩⟩
def ti34:TI:=⟨1,24,[.z],.sl 171⟩
theorem tok34:b9 Tryz.prog 34 ti34:=⟨by kernel_rfl,by simp[ti34,aD,Value.oneCell'],Tryz.underlying34⟩
def ti35:TI:=⟨1,24,[.z],.sl 175⟩
theorem tok35:b9 Tryz.prog 35 ti35:=⟨by kernel_rfl,by simp[ti35,aD,Value.oneCell'],Tryz.underlying35⟩
def ti36:TI:=⟨1,24,[.z],.sl 179⟩
theorem tok36:b9 Tryz.prog 36 ti36:=⟨by kernel_rfl,by simp[ti36,aD,Value.oneCell'],Tryz.underlying36⟩
def ti37:TI:=⟨1,24,[.z],.sl 181⟩
theorem tok37:b9 Tryz.prog 37 ti37:=⟨by kernel_rfl,by simp[ti37,aD,Value.oneCell'],Tryz.underlying37⟩
def ti38:TI:=⟨1,24,[.z],.sl 148⟩
theorem tok38:b9 Tryz.prog 38 ti38:=⟨by kernel_rfl,by simp[ti38,aD,Value.oneCell'],Tryz.underlying38⟩
def ti39:TI:=⟨1,24,[.z],.sl 232⟩
theorem tok39:b9 Tryz.prog 39 ti39:=⟨by kernel_rfl,by simp[ti39,aD,Value.oneCell'],Tryz.underlying39⟩
def ti40:TI:=⟨2,48,[.z,.z],.st [(0,39),(1,22)]⟩
theorem tok40:b9 Tryz.prog 40 ti40:=⟨by kernel_rfl,by simp[ti40,aD,Value.oneCell'],⟨_,Tryz.underlying40,rfl⟩⟩
def ti41:TI:=⟨2,48,[.z,.z],.st [(0,39),(1,22)]⟩
theorem tok41:b9 Tryz.prog 41 ti41:=⟨by kernel_rfl,by simp[ti41,aD,Value.oneCell'],⟨_,Tryz.underlying41,rfl⟩⟩
def ti42:TI:=⟨1,24,[.z],.sl 257⟩
theorem tok42:b9 Tryz.prog 42 ti42:=⟨by kernel_rfl,by simp[ti42,aD,Value.oneCell'],Tryz.underlying42⟩
def ti43:TI:=⟨2,32,[.v (.int .i64 0),.z],.st [(0,3),(1,42)]⟩
theorem tok43:b9 Tryz.prog 43 ti43:=⟨by kernel_rfl,by simp[ti43,aD,Value.oneCell'],⟨_,Tryz.underlying43,rfl⟩⟩
def ti44:TI:=⟨2,32,[.v (.int .i64 0),.z],.st [(0,3),(1,42)]⟩
theorem tok44:b9 Tryz.prog 44 ti44:=⟨by kernel_rfl,by simp[ti44,aD,Value.oneCell'],⟨_,Tryz.underlying44,rfl⟩⟩
def ti45:TI:=⟨3,40,[.v (.int .i64 0),.v (.int .i64 0),.z],.st [(0,3),(1,3),(2,31)]⟩
theorem tok45:b9 Tryz.prog 45 ti45:=⟨by kernel_rfl,by simp[ti45,aD,Value.oneCell'],⟨_,Tryz.underlying45,rfl⟩⟩
def ti46:TI:=⟨3,40,[.v (.int .i64 0),.v (.int .i64 0),.z],.st [(0,3),(1,3),(2,31)]⟩
theorem tok46:b9 Tryz.prog 46 ti46:=⟨by kernel_rfl,by simp[ti46,aD,Value.oneCell'],⟨_,Tryz.underlying46,rfl⟩⟩
def ti47:TI:=⟨5,56,[.v (.int .i64 0),.v (.int .i64 0),.z,.v (.int .i64 0),.v (.int .i64 0)],.st [(0,46),(3,3),(4,3)]⟩
theorem tok47:b9 Tryz.prog 47 ti47:=⟨by kernel_rfl,by simp[ti47,aD,Value.oneCell'],⟨_,Tryz.underlying47,rfl⟩⟩
def ti48:TI:=⟨5,56,[.v (.int .i64 0),.v (.int .i64 0),.z,.v (.int .i64 0),.v (.int .i64 0)],.st [(0,46),(3,3),(4,3)]⟩
theorem tok48:b9 Tryz.prog 48 ti48:=⟨by kernel_rfl,by simp[ti48,aD,Value.oneCell'],⟨_,Tryz.underlying48,rfl⟩⟩
def ti49:TI:=⟨24,400,[.z,.z,.z,.v (.int .i64 0),.z,.z,.z,.z,.z,.z,.z,.z,.v (.int .i64 0),.z,.v (.int .i64 0),.v (.int .i64 0),.v (.int .i64 0),.v (.int .i64 0),.v (.bool false),.v (.int .i64 0),.v (.int .i64 0),.z,.v (.int .i64 0),.v (.int .i64 0)],.st [(0,33),(5,34),(6,35),(7,36),(8,37),(9,38),(10,41),(12,44),(14,3),(15,3),(16,3),(17,3),(18,4),(19,48)]⟩
theorem tok49:b9 Tryz.prog 49 ti49:=⟨by kernel_rfl,by simp[ti49,aD,Value.oneCell'],⟨_,Tryz.underlying49,rfl⟩⟩
def ti50:TI:=⟨24,400,[.z,.z,.z,.v (.int .i64 0),.z,.z,.z,.z,.z,.z,.z,.z,.v (.int .i64 0),.z,.v (.int .i64 0),.v (.int .i64 0),.v (.int .i64 0),.v (.int .i64 0),.v (.bool false),.v (.int .i64 0),.v (.int .i64 0),.z,.v (.int .i64 0),.v (.int .i64 0)],.st [(0,33),(5,34),(6,35),(7,36),(8,37),(9,38),(10,41),(12,44),(14,3),(15,3),(16,3),(17,3),(18,4),(19,48)]⟩
theorem tok50:b9 Tryz.prog 50 ti50:=⟨by kernel_rfl,by simp[ti50,aD,Value.oneCell'],⟨_,Tryz.underlying50,rfl⟩⟩
def ti52:TI:=⟨2,48,[.z,.z],.st [(0,22),(1,23)]⟩
theorem tok52:b9 Tryz.prog 52 ti52:=⟨by kernel_rfl,by simp[ti52,aD,Value.oneCell'],⟨_,Tryz.underlying52,rfl⟩⟩
def ti53:TI:=⟨1,24,[.z],.sl 210⟩
theorem tok53:b9 Tryz.prog 53 ti53:=⟨by kernel_rfl,by simp[ti53,aD,Value.oneCell'],Tryz.underlying53⟩
def ti54:TI:=⟨1,24,[.z],.st [(0,53)]⟩
theorem tok54:b9 Tryz.prog 54 ti54:=⟨by kernel_rfl,by simp[ti54,aD,Value.oneCell'],⟨_,Tryz.underlying54,rfl⟩⟩
def ti55:TI:=⟨1,24,[.z],.st [(0,53)]⟩
theorem tok55:b9 Tryz.prog 55 ti55:=⟨by kernel_rfl,by simp[ti55,aD,Value.oneCell'],⟨_,Tryz.underlying55,rfl⟩⟩
def ti56:TI:=⟨3,72,[.z,.z,.z],.st [(0,52),(2,55)]⟩
theorem tok56:b9 Tryz.prog 56 ti56:=⟨by kernel_rfl,by simp[ti56,aD,Value.oneCell'],⟨_,Tryz.underlying56,rfl⟩⟩
def ti57:TI:=⟨3,72,[.z,.z,.z],.st [(0,52),(2,55)]⟩
theorem tok57:b9 Tryz.prog 57 ti57:=⟨by kernel_rfl,by simp[ti57,aD,Value.oneCell'],⟨_,Tryz.underlying57,rfl⟩⟩
def ti58:TI:=⟨5,104,[.z,.z,.z,.v (.int .i64 0),.z],.st [(0,57),(3,3),(4,31)]⟩
theorem tok58:b9 Tryz.prog 58 ti58:=⟨by kernel_rfl,by simp[ti58,aD,Value.oneCell'],⟨_,Tryz.underlying58,rfl⟩⟩
def ti59:TI:=⟨5,104,[.z,.z,.z,.v (.int .i64 0),.z],.st [(0,57),(3,3),(4,31)]⟩
theorem tok59:b9 Tryz.prog 59 ti59:=⟨by kernel_rfl,by simp[ti59,aD,Value.oneCell'],⟨_,Tryz.underlying59,rfl⟩⟩
def ti60:TI:=⟨1,24,[.z],.sl 100⟩
theorem tok60:b9 Tryz.prog 60 ti60:=⟨by kernel_rfl,by simp[ti60,aD,Value.oneCell'],Tryz.underlying60⟩
def ti61:TI:=⟨1,24,[.z],.sl 173⟩
theorem tok61:b9 Tryz.prog 61 ti61:=⟨by kernel_rfl,by simp[ti61,aD,Value.oneCell'],Tryz.underlying61⟩
def ti62:TI:=⟨1,24,[.z],.sl 177⟩
theorem tok62:b9 Tryz.prog 62 ti62:=⟨by kernel_rfl,by simp[ti62,aD,Value.oneCell'],Tryz.underlying62⟩
def ti63:TI:=⟨1,24,[.z],.sl 139⟩
theorem tok63:b9 Tryz.prog 63 ti63:=⟨by kernel_rfl,by simp[ti63,aD,Value.oneCell'],Tryz.underlying63⟩
def ti64:TI:=⟨1,24,[.z],.sl 104⟩
theorem tok64:b9 Tryz.prog 64 ti64:=⟨by kernel_rfl,by simp[ti64,aD,Value.oneCell'],Tryz.underlying64⟩
def ti65:TI:=⟨1,24,[.z],.sl 239⟩
theorem tok65:b9 Tryz.prog 65 ti65:=⟨by kernel_rfl,by simp[ti65,aD,Value.oneCell'],Tryz.underlying65⟩
def ti66:TI:=⟨2,48,[.z,.z],.st [(0,65),(1,22)]⟩
theorem tok66:b9 Tryz.prog 66 ti66:=⟨by kernel_rfl,by simp[ti66,aD,Value.oneCell'],⟨_,Tryz.underlying66,rfl⟩⟩
def ti67:TI:=⟨2,48,[.z,.z],.st [(0,65),(1,22)]⟩
theorem tok67:b9 Tryz.prog 67 ti67:=⟨by kernel_rfl,by simp[ti67,aD,Value.oneCell'],⟨_,Tryz.underlying67,rfl⟩⟩
def ti68:TI:=⟨1,24,[.z],.sl 158⟩
theorem tok68:b9 Tryz.prog 68 ti68:=⟨by kernel_rfl,by simp[ti68,aD,Value.oneCell'],Tryz.underlying68⟩
def ti69:TI:=⟨2,32,[.v (.int .i64 0),.z],.st [(0,3),(1,68)]⟩
theorem tok69:b9 Tryz.prog 69 ti69:=⟨by kernel_rfl,by simp[ti69,aD,Value.oneCell'],⟨_,Tryz.underlying69,rfl⟩⟩
def ti70:TI:=⟨2,32,[.v (.int .i64 0),.z],.st [(0,3),(1,68)]⟩
theorem tok70:b9 Tryz.prog 70 ti70:=⟨by kernel_rfl,by simp[ti70,aD,Value.oneCell'],⟨_,Tryz.underlying70,rfl⟩⟩
def ti71:TI:=⟨3,40,[.v (.int .i64 0),.v (.int .i64 0),.z],.st [(0,3),(1,3),(2,31)]⟩
theorem tok71:b9 Tryz.prog 71 ti71:=⟨by kernel_rfl,by simp[ti71,aD,Value.oneCell'],⟨_,Tryz.underlying71,rfl⟩⟩
def ti72:TI:=⟨5,56,[.v (.int .i64 0),.v (.int .i64 0),.z,.v (.int .i64 0),.v (.int .i64 0)],.st [(0,71),(3,3),(4,3)]⟩
theorem tok72:b9 Tryz.prog 72 ti72:=⟨by kernel_rfl,by simp[ti72,aD,Value.oneCell'],⟨_,Tryz.underlying72,rfl⟩⟩
def ti73:TI:=⟨5,56,[.v (.int .i64 0),.v (.int .i64 0),.z,.v (.int .i64 0),.v (.int .i64 0)],.st [(0,71),(3,3),(4,3)]⟩
theorem tok73:b9 Tryz.prog 73 ti73:=⟨by kernel_rfl,by simp[ti73,aD,Value.oneCell'],⟨_,Tryz.underlying73,rfl⟩⟩
def ti74:TI:=⟨24,400,[.z,.z,.z,.v (.int .i64 0),.z,.z,.z,.z,.z,.z,.z,.z,.v (.int .i64 0),.z,.v (.int .i64 0),.v (.int .i64 0),.v (.int .i64 0),.v (.int .i64 0),.v (.bool false),.v (.int .i64 0),.v (.int .i64 0),.z,.v (.int .i64 0),.v (.int .i64 0)],.st [(0,59),(5,60),(6,61),(7,62),(8,63),(9,64),(10,67),(12,70),(14,3),(15,3),(16,3),(17,3),(18,4),(19,73)]⟩
theorem tok74:b9 Tryz.prog 74 ti74:=⟨by kernel_rfl,by simp[ti74,aD,Value.oneCell'],⟨_,Tryz.underlying74,rfl⟩⟩
def ti75:TI:=⟨24,400,[.z,.z,.z,.v (.int .i64 0),.z,.z,.z,.z,.z,.z,.z,.z,.v (.int .i64 0),.z,.v (.int .i64 0),.v (.int .i64 0),.v (.int .i64 0),.v (.int .i64 0),.v (.bool false),.v (.int .i64 0),.v (.int .i64 0),.z,.v (.int .i64 0),.v (.int .i64 0)],.st [(0,59),(5,60),(6,61),(7,62),(8,63),(9,64),(10,67),(12,70),(14,3),(15,3),(16,3),(17,3),(18,4),(19,73)]⟩
theorem tok75:b9 Tryz.prog 75 ti75:=⟨by kernel_rfl,by simp[ti75,aD,Value.oneCell'],⟨_,Tryz.underlying75,rfl⟩⟩
def ti99:TI:=⟨2,16,[.v (.int .i64 0),.v (.int .i64 0)],.st [(0,3),(1,3)]⟩
theorem tok99:b9 Tryz.prog 99 ti99:=⟨by kernel_rfl,by simp[ti99,aD,Value.oneCell'],⟨_,Tryz.underlying99,rfl⟩⟩
def ti100:TI:=⟨2,16,[.v (.int .i64 0),.v (.int .i64 0)],.st [(0,3),(1,3)]⟩
theorem tok100:b9 Tryz.prog 100 ti100:=⟨by kernel_rfl,by simp[ti100,aD,Value.oneCell'],⟨_,Tryz.underlying100,rfl⟩⟩
def ti103:TI:=⟨1,24,[.z],.st [(0,22)]⟩
theorem tok103:b9 Tryz.prog 103 ti103:=⟨by kernel_rfl,by simp[ti103,aD,Value.oneCell'],⟨_,Tryz.underlying103,rfl⟩⟩
def ti104:TI:=⟨1,24,[.z],.st [(0,22)]⟩
theorem tok104:b9 Tryz.prog 104 ti104:=⟨by kernel_rfl,by simp[ti104,aD,Value.oneCell'],⟨_,Tryz.underlying104,rfl⟩⟩
def ti138:TI:=⟨4,32,[.v (.int .i64 0),.v (.int .i64 0),.v (.int .i64 0),.v (.int .i64 0)],.st [(0,3),(1,3),(2,3),(3,3)]⟩
theorem tok138:b9 Tryz.prog 138 ti138:=⟨by kernel_rfl,by simp[ti138,aD,Value.oneCell'],⟨_,Tryz.underlying138,rfl⟩⟩
def ti139:TI:=⟨4,32,[.v (.int .i64 0),.v (.int .i64 0),.v (.int .i64 0),.v (.int .i64 0)],.st [(0,3),(1,3),(2,3),(3,3)]⟩
theorem tok139:b9 Tryz.prog 139 ti139:=⟨by kernel_rfl,by simp[ti139,aD,Value.oneCell'],⟨_,Tryz.underlying139,rfl⟩⟩
def ti148:TI:=⟨1,24,[.z],.st [(0,22)]⟩
theorem tok148:b9 Tryz.prog 148 ti148:=⟨by kernel_rfl,by simp[ti148,aD,Value.oneCell'],⟨_,Tryz.underlying148,rfl⟩⟩
def ti157:TI:=⟨3,24,[.v (.int .i64 0),.v (.int .i64 0),.v (.int .i64 0)],.st [(0,3),(1,3),(2,3)]⟩
theorem tok157:b9 Tryz.prog 157 ti157:=⟨by kernel_rfl,by simp[ti157,aD,Value.oneCell'],⟨_,Tryz.underlying157,rfl⟩⟩
def ti158:TI:=⟨3,24,[.v (.int .i64 0),.v (.int .i64 0),.v (.int .i64 0)],.st [(0,3),(1,3),(2,3)]⟩
theorem tok158:b9 Tryz.prog 158 ti158:=⟨by kernel_rfl,by simp[ti158,aD,Value.oneCell'],⟨_,Tryz.underlying158,rfl⟩⟩
def ti171:TI:=⟨2,16,[.v (.int .i64 0),.v (.int .i64 0)],.st [(0,3),(1,3)]⟩
theorem tok171:b9 Tryz.prog 171 ti171:=⟨by kernel_rfl,by simp[ti171,aD,Value.oneCell'],⟨_,Tryz.underlying171,rfl⟩⟩
def ti172:TI:=⟨3,24,[.v (.int .i64 0),.v (.int .i64 0),.v (.int .i64 0)],.st [(0,3),(1,3),(2,3)]⟩
theorem tok172:b9 Tryz.prog 172 ti172:=⟨by kernel_rfl,by simp[ti172,aD,Value.oneCell'],⟨_,Tryz.underlying172,rfl⟩⟩
def ti173:TI:=⟨3,24,[.v (.int .i64 0),.v (.int .i64 0),.v (.int .i64 0)],.st [(0,3),(1,3),(2,3)]⟩
theorem tok173:b9 Tryz.prog 173 ti173:=⟨by kernel_rfl,by simp[ti173,aD,Value.oneCell'],⟨_,Tryz.underlying173,rfl⟩⟩
def ti175:TI:=⟨3,24,[.v (.int .i64 0),.v (.int .i64 0),.v (.int .i64 0)],.st [(0,3),(1,3),(2,3)]⟩
theorem tok175:b9 Tryz.prog 175 ti175:=⟨by kernel_rfl,by simp[ti175,aD,Value.oneCell'],⟨_,Tryz.underlying175,rfl⟩⟩
def ti176:TI:=⟨3,24,[.v (.int .i64 0),.v (.int .i64 0),.v (.int .i64 0)],.st [(0,3),(1,3),(2,3)]⟩
theorem tok176:b9 Tryz.prog 176 ti176:=⟨by kernel_rfl,by simp[ti176,aD,Value.oneCell'],⟨_,Tryz.underlying176,rfl⟩⟩
def ti177:TI:=⟨3,24,[.v (.int .i64 0),.v (.int .i64 0),.v (.int .i64 0)],.st [(0,3),(1,3),(2,3)]⟩
theorem tok177:b9 Tryz.prog 177 ti177:=⟨by kernel_rfl,by simp[ti177,aD,Value.oneCell'],⟨_,Tryz.underlying177,rfl⟩⟩
def ti179:TI:=⟨3,24,[.v (.int .i64 0),.v (.int .i64 0),.v (.int .i64 0)],.st [(0,3),(1,3),(2,3)]⟩
theorem tok179:b9 Tryz.prog 179 ti179:=⟨by kernel_rfl,by simp[ti179,aD,Value.oneCell'],⟨_,Tryz.underlying179,rfl⟩⟩
def ti181:TI:=⟨4,32,[.v (.int .i64 0),.v (.int .i64 0),.v (.int .i64 0),.v (.int .i64 0)],.st [(0,3),(1,3),(2,3),(3,3)]⟩
theorem tok181:b9 Tryz.prog 181 ti181:=⟨by kernel_rfl,by simp[ti181,aD,Value.oneCell'],⟨_,Tryz.underlying181,rfl⟩⟩
def ti209:TI:=⟨2,16,[.v (.int .i64 0),.v (.int .i64 0)],.st [(0,3),(1,3)]⟩
theorem tok209:b9 Tryz.prog 209 ti209:=⟨by kernel_rfl,by simp[ti209,aD,Value.oneCell'],⟨_,Tryz.underlying209,rfl⟩⟩
def ti210:TI:=⟨2,16,[.v (.int .i64 0),.v (.int .i64 0)],.st [(0,3),(1,3)]⟩
theorem tok210:b9 Tryz.prog 210 ti210:=⟨by kernel_rfl,by simp[ti210,aD,Value.oneCell'],⟨_,Tryz.underlying210,rfl⟩⟩
def ti213:TI:=⟨2,16,[.v (.int .i64 0),.v (.int .i64 0)],.st [(0,3),(1,3)]⟩
theorem tok213:b9 Tryz.prog 213 ti213:=⟨by kernel_rfl,by simp[ti213,aD,Value.oneCell'],⟨_,Tryz.underlying213,rfl⟩⟩
def ti214:TI:=⟨2,16,[.v (.int .i64 0),.v (.int .i64 0)],.st [(0,3),(1,3)]⟩
theorem tok214:b9 Tryz.prog 214 ti214:=⟨by kernel_rfl,by simp[ti214,aD,Value.oneCell'],⟨_,Tryz.underlying214,rfl⟩⟩
def ti232:TI:=⟨1,24,[.z],.sl 314⟩
theorem tok232:b9 Tryz.prog 232 ti232:=⟨by kernel_rfl,by simp[ti232,aD,Value.oneCell'],Tryz.underlying232⟩
def ti239:TI:=⟨1,24,[.z],.sl 214⟩
theorem tok239:b9 Tryz.prog 239 ti239:=⟨by kernel_rfl,by simp[ti239,aD,Value.oneCell'],Tryz.underlying239⟩
def ti243:TI:=⟨4,32,[.v (.int .i64 0),.v (.int .i64 0),.v (.int .i64 0),.v (.int .i64 0)],.st [(0,3),(1,3),(2,3),(3,3)]⟩
theorem tok243:b9 Tryz.prog 243 ti243:=⟨by kernel_rfl,by simp[ti243,aD,Value.oneCell'],⟨_,Tryz.underlying243,rfl⟩⟩
def ti244:TI:=⟨4,32,[.v (.int .i64 0),.v (.int .i64 0),.v (.int .i64 0),.v (.int .i64 0)],.st [(0,3),(1,3),(2,3),(3,3)]⟩
theorem tok244:b9 Tryz.prog 244 ti244:=⟨by kernel_rfl,by simp[ti244,aD,Value.oneCell'],⟨_,Tryz.underlying244,rfl⟩⟩
def ti257:TI:=⟨3,24,[.v (.int .i64 0),.v (.int .i64 0),.v (.int .i64 0)],.st [(0,3),(1,3),(2,3)]⟩
theorem tok257:b9 Tryz.prog 257 ti257:=⟨by kernel_rfl,by simp[ti257,aD,Value.oneCell'],⟨_,Tryz.underlying257,rfl⟩⟩
def ti258:TI:=⟨1,8,[.v (.map none)],.mp 3 4 (.bool false)⟩
theorem tok258:b9 Tryz.prog 258 ti258:=⟨by kernel_rfl,by simp[ti258,aD,Value.oneCell'],⟨Tryz.underlying258,Tryz.underlying3,by kernel_rfl,rfl⟩⟩
def ti263:TI:=⟨1,8,[.v (.map none)],.mp 3 3 (.int .i64 0)⟩
theorem tok263:b9 Tryz.prog 263 ti263:=⟨by kernel_rfl,by simp[ti263,aD,Value.oneCell'],⟨Tryz.underlying263,Tryz.underlying3,by kernel_rfl,rfl⟩⟩
def ti276:TI:=⟨1,8,[.v (.int .u64 0)],.sc (.int .u64)⟩
theorem tok276:b9 Tryz.prog 276 ti276:=⟨by kernel_rfl,by simp[ti276,aD,Value.oneCell'],⟨Tryz.underlying276,trivial⟩⟩
def ti292:TI:=⟨1,24,[.z],.sl 298⟩
theorem tok292:b9 Tryz.prog 292 ti292:=⟨by kernel_rfl,by simp[ti292,aD,Value.oneCell'],Tryz.underlying292⟩
def ti297:TI:=⟨2,16,[.v (.int .i64 0),.v (.int .i64 0)],.st [(0,3),(1,3)]⟩
theorem tok297:b9 Tryz.prog 297 ti297:=⟨by kernel_rfl,by simp[ti297,aD,Value.oneCell'],⟨_,Tryz.underlying297,rfl⟩⟩
def ti298:TI:=⟨2,16,[.v (.int .i64 0),.v (.int .i64 0)],.st [(0,3),(1,3)]⟩
theorem tok298:b9 Tryz.prog 298 ti298:=⟨by kernel_rfl,by simp[ti298,aD,Value.oneCell'],⟨_,Tryz.underlying298,rfl⟩⟩
def ti314:TI:=⟨2,16,[.v (.int .i64 0),.v (.int .i64 0)],.st [(0,3),(1,3)]⟩
theorem tok314:b9 Tryz.prog 314 ti314:=⟨by kernel_rfl,by simp[ti314,aD,Value.oneCell'],⟨_,Tryz.underlying314,rfl⟩⟩
def ti338:TI:=⟨2,16,[.v (.int .i64 0),.v (.int .i64 0)],.st [(0,3),(1,3)]⟩
theorem tok338:b9 Tryz.prog 338 ti338:=⟨by kernel_rfl,by simp[ti338,aD,Value.oneCell'],⟨_,Tryz.underlying338,rfl⟩⟩
def ti356:TI:=⟨1,8,[.v (.int .i64 0)],.sc (.int .i64)⟩
theorem tok356:b9 Tryz.prog 356 ti356:=⟨by kernel_rfl,by simp[ti356,aD,Value.oneCell'],⟨Tryz.underlying356,trivial⟩⟩
def ti364:TI:=⟨1,4,[.v (.int .u32 0)],.sc (.int .u32)⟩
theorem tok364:b9 Tryz.prog 364 ti364:=⟨by kernel_rfl,by simp[ti364,aD,Value.oneCell'],⟨Tryz.underlying364,trivial⟩⟩
def ti366:TI:=⟨1,8,[.v (.int .u64 0)],.sc (.int .u64)⟩
theorem tok366:b9 Tryz.prog 366 ti366:=⟨by kernel_rfl,by simp[ti366,aD,Value.oneCell'],⟨Tryz.underlying366,trivial⟩⟩
def ti372:TI:=⟨1,8,[.v (.int .u64 0)],.sc (.int .u64)⟩
theorem tok372:b9 Tryz.prog 372 ti372:=⟨by kernel_rfl,by simp[ti372,aD,Value.oneCell'],⟨Tryz.underlying372,trivial⟩⟩
def ti387:TI:=⟨0,0,[],.st [(0,386)]⟩
theorem tok387:b9 Tryz.prog 387 ti387:=⟨by kernel_rfl,by simp[ti387,aD,Value.oneCell'],⟨_,Tryz.underlying387,rfl⟩⟩
def ti388:TI:=⟨0,0,[],.st [(0,386)]⟩
theorem tok388:b9 Tryz.prog 388 ti388:=⟨by kernel_rfl,by simp[ti388,aD,Value.oneCell'],⟨_,Tryz.underlying388,rfl⟩⟩
def ti390:TI:=⟨1,1,[.v (.int .u8 0)],.sc (.int .u8)⟩
theorem tok390:b9 Tryz.prog 390 ti390:=⟨by kernel_rfl,by simp[ti390,aD,Value.oneCell'],⟨Tryz.underlying390,trivial⟩⟩
def ti391:TI:=⟨1,1,[.v (.int .u8 0)],.sc (.int .u8)⟩
theorem tok391:b9 Tryz.prog 391 ti391:=⟨by kernel_rfl,by simp[ti391,aD,Value.oneCell'],⟨Tryz.underlying391,trivial⟩⟩
def ti394:TI:=⟨1,4,[.v (.int .i32 0)],.sc (.int .i32)⟩
theorem tok394:b9 Tryz.prog 394 ti394:=⟨by kernel_rfl,by simp[ti394,aD,Value.oneCell'],⟨Tryz.underlying394,trivial⟩⟩
def ti395:TI:=⟨1,4,[.v (.int .i32 0)],.sc (.int .i32)⟩
theorem tok395:b9 Tryz.prog 395 ti395:=⟨by kernel_rfl,by simp[ti395,aD,Value.oneCell'],⟨Tryz.underlying395,trivial⟩⟩
def tab:List (Nat × TI):=[(3,ti3),(4,ti4),(2,ti2),(5,ti5),(6,ti6),(7,ti7),(8,ti8),(9,ti9),(10,ti10),(11,ti11),(12,ti12),(13,ti13),(14,ti14),(21,ti21),(22,ti22),(23,ti23),(24,ti24),(25,ti25),(26,ti26),(27,ti27),(28,ti28),(29,ti29),(30,ti30),(31,ti31),(32,ti32),(33,ti33),(34,ti34),(35,ti35),(36,ti36),(37,ti37),(38,ti38),(39,ti39),(40,ti40),(41,ti41),(42,ti42),(43,ti43),(44,ti44),(45,ti45),(46,ti46),(47,ti47),(48,ti48),(49,ti49),(50,ti50),(52,ti52),(53,ti53),(54,ti54),(55,ti55),(56,ti56),(57,ti57),(58,ti58),(59,ti59),(60,ti60),(61,ti61),(62,ti62),(63,ti63),(64,ti64),(65,ti65),(66,ti66),(67,ti67),(68,ti68),(69,ti69),(70,ti70),(71,ti71),(72,ti72),(73,ti73),(74,ti74),(75,ti75),(99,ti99),(100,ti100),(103,ti103),(104,ti104),(138,ti138),(139,ti139),(148,ti148),(157,ti157),(158,ti158),(171,ti171),(172,ti172),(173,ti173),(175,ti175),(176,ti176),(177,ti177),(179,ti179),(181,ti181),(209,ti209),(210,ti210),(213,ti213),(214,ti214),(232,ti232),(239,ti239),(243,ti243),(244,ti244),(257,ti257),(258,ti258),(263,ti263),(276,ti276),(292,ti292),(297,ti297),(298,ti298),(314,ti314),(338,ti338),(356,ti356),(364,ti364),(366,ti366),(372,ti372),(387,ti387),(388,ti388),(390,ti390),(391,ti391),(394,ti394),(395,ti395)]
theorem HM:HJ Tryz.prog tab:=⟨tok3,tok4,tok2,tok5,tok6,tok7,tok8,tok9,tok10,tok11,tok12,tok13,tok14,tok21,tok22,tok23,tok24,tok25,tok26,tok27,tok28,tok29,tok30,tok31,tok32,tok33,tok34,tok35,tok36,tok37,tok38,tok39,tok40,tok41,tok42,tok43,tok44,tok45,tok46,tok47,tok48,tok49,tok50,tok52,tok53,tok54,tok55,tok56,tok57,tok58,tok59,tok60,tok61,tok62,tok63,tok64,tok65,tok66,tok67,tok68,tok69,tok70,tok71,tok72,tok73,tok74,tok75,tok99,tok100,tok103,tok104,tok138,tok139,tok148,tok157,tok158,tok171,tok172,tok173,tok175,tok176,tok177,tok179,tok181,tok209,tok210,tok213,tok214,tok232,tok239,tok243,tok244,tok257,tok258,tok263,tok276,tok292,tok297,tok298,tok314,tok338,tok356,tok364,tok366,tok372,tok387,tok388,tok390,tok391,tok394,tok395,trivial⟩
def TE:Nat→Option TI:=De tab
theorem sq:∀ t i,TE t=some i→b9 Tryz.prog t i:=zw HM
end Go.Proofs.YtogajjgmcnjkbaaGreat.Ab
namespace Go.Proofs.YtogajjgmcnjkbaaGreat.Ab
open Go.RowKit
def HE:C→Value→C
 | .s .own rows,v=>.s (.tag v) rows
 | c,_=>c
def uL (u:Nat→Value):Nat→List C→List C
 | _,[]=>[]
 | j,c::cs=>HE c (u j)::uL u (j+1) cs
def uy (u:Nat→Nat→Value):Nat→List MA→List (Nat × AV)
 | _,[]=>[]
 | i,.val ag cs::A=>(i,.hold (jK ag) cs)::uy u (i+1) A
 | i,.mut ag cs::A=>(i,.hold (jK ag) (uL (u i) 0 cs))::uy u (i+1) A
 | i,.ptr cs::A=>(i,.hold .box cs)::uy u (i+1) A
def EH (p:Nat→Value):Nat→List MA→List (Nat × Value)
 | _,[]=>[]
 | i,.ptr _::A=>(i,p i)::EH p (i+1) A
 | i,_::A=>EH p (i+1) A
def Ae:Nat→List MA→List (Nat × Nat)→List (Option Nat)
 | i,.val _ _::A,_::pl=>none::Ae (i+1) A pl
 | i,.mut _ _::A,p::pl=>some p.1::Ae (i+1) A pl
 | i,.ptr _::A,_::pl=>some i::Ae (i+1) A pl
 | _,_,_=>[]
def D3:List (Option Nat)→Bool
 | []=>true
 | none::l=>D3 l
 | some t::l=>l.all (fun x=>match x with|some t'=>!Nat.beq t t'|none=>true)&&D3 l
def sles:List (Option Nat)→List Nat
 | []=>[]
 | none::l=>sles l
 | some t::l=>t::sles l
def J8 (v:Value) (c y o:C):Prop:=
 match c with
 | .s .own _=>(match y with|.s (.tag v') rows=>v'=v∧o=.s .own rows|_=>False)
 | .s (.tag _) _=>False
 | .m _=>False
 | .it _ _=>False
 | c=>o=c
def Ht (u:Nat→Value):Nat→List C→List C→List C→Prop
 | _,[],_,o=>o=[]
 | j,c::cs,y::xs,o::os=>J8 (u j) c y o∧Ht u (j+1) cs xs os
 | _,_,_,_=>False
def gb (u:Nat→Nat→Value) (F:Nat→AV):Nat→List MA→List (Nat × Nat)→List MA→Prop
 | _,[],_,[]=>True
 | i,.val _ _::A,_::pl,.val _ _::B=>gb u F (i+1) A pl B
 | i,.mut ag cs::A,p::pl,.mut ag' out::B=>(ag'=ag∧match F p.1 with|.hold _ xs=>Ht (u i) 0 cs (xs.drop p.2) out|_=>False)∧gb u F (i+1) A pl B
 | i,.ptr _::A,_::pl,.ptr out::B=>(match F i with|.hold .box xs=>xs=out|_=>False)∧gb u F (i+1) A pl B
 | _,_,_,_=>False
inductive cY (k k':Kd) (cs cs':List C) (Q:Prop):Prop
 |mk_ (h:k=k'∧cs=cs'∧Q)
theorem cY.mk {k k':Kd} {cs cs':List C} {Q:Prop} (h1:k=k') (h2:cs=cs') (h3:Q):cY k k' cs cs' Q:=by refine .mk_ ?_;exact⟨h1,h2,h3⟩
theorem cY.out {k k':Kd} {cs cs':List C} {Q:Prop} (h:cY k k' cs cs' Q):k=k'∧cs=cs'∧Q:=by obtain⟨h⟩:=h;exact h
def Jd (TE:Nat→Option TI) (rs:List ResultVar) (k:Kd) (rcs:List C) (u:Nat→Nat→Value) (A B:List MA) (pl:List (Nat × Nat)):Exit→(Nat→AV)→Prop:=fun e F=>
 match e with
 | .normal=>resA TE F rs (sles (Ae 0 A pl)) fun sh cs=>cY (io sh) k cs rcs (gb u F 0 A pl B)
 | .ret=>resA TE F rs (sles (Ae 0 A pl)) fun sh cs=>cY (io sh) k cs rcs (gb u F 0 A pl B)
 | _=>False
section
variable {P:Program} {w0 w w1:World} {M S0 S:ab} {N:fq} {φ:Nat→ab} {F:Nat→AV} {a:Act} {TE:Nat→Option TI}
theorem dK.tag {Y:ab} {c:C} {v:Value} (h:dK w S Y c v):dK w S Y (HE c v) v:=by
 cases h with
 | nil _ o a ho=>cases o with
  | own=>exact .nil _ _ _ rfl
  | _=>exact .nil _ _ _ ho
 | own _ o g k n cap rows u f ho hn hk hcap hpos hF hu hf hd hc=>cases o with
  | own=>exact .own _ _ g k n cap rows u f rfl hn hk hcap hpos hF hu hf hd hc
  | imm=>exact ho.elim
  | tag z=>exact .own _ _ g k n cap rows u f ho hn hk hcap hpos hF hu hf hd hc
 | v _ x h1=>exact .v _ _ h1
 | x _ u h1=>exact .x _ _ h1
 | z _ a=>exact .z _ _
 | imm _ g off k n cap rows u hn hk hcap hS hc=>exact .imm _ g off k n cap rows u hn hk hcap hS hc
 | m _ b clock es ents hF hb he hv hst=>exact .m _ b clock es ents hF hb he hv hst
 | it _ r b since c0 clock seen ents cur left hF hr hb hst hc hv hl hcur=>exact .it _ r b since c0 clock seen ents cur left hF hr hb hst hc hv hl hcur
theorem dK.untag {Y:ab} {z v:Value} {rows:List (List C)} (h:dK w S Y (.s (.tag z) rows) v):v=z∧dK w S Y (.s .own rows) v:=by
 cases h with
 | nil _ o a ho=>exact⟨Eq.symm ho,.nil _ _ _ trivial⟩
 | own _ o g k n cap rows u f ho hn hk hcap hpos hF hu hf hd hc=>exact⟨Eq.symm ho,.own _ _ g k n cap rows u f trivial hn hk hcap hpos hF hu hf hd hc⟩
theorem mw (u:Nat→Value):∀ (j:Nat) (cs:List C),(uL u j cs).length=cs.length
 | _,[]=>rfl
 | j,c::cs=>by simp[uL,mw u (j+1) cs]
theorem zo (u:Nat→Value):∀ (j0:Nat) (cs:List C) (j:Nat),(uL u j0 cs)[j]? = (cs[j]?).map fun c=>HE c (u (j0+j))
 | _,[],j=>by simp[uL]
 | j0,c::cs,0=>by simp[uL]
 | j0,c::cs,j+1=>by simp only[uL,List.getElem?_cons_succ];rw[zo u (j0+1) cs j,show j0+1+j=j0+(j+1) by omega]
theorem cm.tag {Y:ab} {cs:List C} {u:Nat→Value} (h:cm w S Y cs u):cm w S Y (uL u 0 cs) u:=by
 obtain⟨f,h1,h2,h3⟩:=h
 refine⟨f,fun j c hj=>?_,fun j hj=>h2 j (by rwa [mw]at hj),fun j j' hj hj'=>h3 j j' (by rwa [mw]at hj) (by rwa [mw]at hj')⟩
 rw[zo,Nat.zero_add]at hj
 cases hc:cs[j]? with
 | none=>rw[hc]at hj;cases hj
 | some c0=>
  rw[hc]at hj
  simp only[Option.map_some,Option.some.injEq]at hj
  subst hj
  exact(h1 j c0 hc).tag
def celF (v:Value) (j:Nat):Value:=v.cells.toList.getD j undef
theorem bo.celF {Y:ab} {ag:Option Nat} {cs:List C} {v:Value} (h:bo w S Y ag cs v):cs.length=ag.getD 1∧v=mkv ag (celF v)∧cm w S Y cs (celF v):=by
 obtain⟨h1,u,h2,h3⟩:=h
 have hc:=mY (ag:=ag) (u:=u) (fun e=>by subst e;exact h3.one (by simp at h1;omega))
 have hu:∀ j,j<ag.getD 1→Ab.celF v j=u j:=fun j hj=>by
  unfold Ab.celF;rw[h2,hc];simp[List.getD,hj]
 exact⟨h1,h2.trans (ga fun j hj=>(hu j hj).symm),h3.congr fun j hj=>hu j (by omega)⟩
def Hx (u:Nat→Nat→Value) (i:Nat):MA→AV
 | .val ag cs=>.hold (jK ag) cs
 | .mut ag cs=>.hold (jK ag) (uL (u i) 0 cs)
 | .ptr cs=>.hold .box cs
theorem vz {u:Nat→Nat→Value} : ∀ {A:List MA} {vs:List Value} {V:Nat→ab} (i:Nat),Hv w S V A vs→∀ t,(lay (uy u i A) t=.dead)∨(∃ m v,i≤t∧vs[t - i]? = some v∧A[t - i]? = some m∧lay (uy u i A) t=Hx u t m∧wx w S (V (t - i)) m v)
 | [],_,_,i,_,t=>.inl rfl
 | m::A,[],_,i,h,t=>h.elim
 | m::A,v::vs,V,i,h,t=>by
  have hl:lay (uy u i (m::A)) t=bif Nat.beq t i then Hx u i m else lay (uy u (i+1) A) t:=by cases m<;>rfl
  rw[hl]
  cases hb:Nat.beq t i with
  | true=>
   have:=Nat.eq_of_beq_eq_true hb
   subst this
   exact .inr ⟨m,v,Nat.le_refl _,by simp,by simp,rfl,by rw[Nat.sub_self];exact h.1⟩
  | false=>
   have hne:t≠i:=fun e=>by subst e;rw[Nat.beq_refl]at hb;cases hb
   rcases vz (i+1) h.2 t with h1|⟨m',v',h1,h2,h3,h4,h5⟩
   ·exact .inl h1
   ·refine .inr ⟨m',v',by omega,?_,?_,h4,?_⟩
    ·rw[show t - i=(t - (i+1))+1 by omega];simpa using h2
    ·rw[show t - i=(t - (i+1))+1 by omega];simpa using h3
    ·rw[show t - i=(t - (i+1))+1 by omega];exact h5
theorem Dd:∀ {A:List MA} {vs:List Value} {V:Nat→ab},Hv w S V A vs→A.length=vs.length
 | [],[],_,_=>rfl
 | _::_,_::_,_,h=>by simp[Dd h.2]
 | [],_::_,_,h=>h.elim
 | _::_,[],_,h=>h.elim
theorem Dw {p:Nat→Value} : ∀ {A:List MA} {i:Nat} {q:Nat × Value},q∈EH p i A→i≤q.1∧q.1<i+A.length∧q.2=p q.1
 | [],_,_,h=>by simp[EH]at h
 | m::A,i,q,h=>by
  have hr:q∈EH p (i+1) A→i≤q.1∧q.1<i+(m::A).length∧q.2=p q.1:=fun h=>by
   obtain⟨h1,h2,h3⟩:=Dw h
   exact⟨by omega,by simp;omega,h3⟩
  cases m with
  | ptr cs=>
   rcases List.mem_cons.1 h with rfl|h
   ·exact⟨Nat.le_refl _,by simp,rfl⟩
   ·exact hr h
  | val=>exact hr h
  | «mut»=>exact hr h
theorem Df {p:Nat→Value} : ∀ {A:List MA} {i n:Nat} {cs:List C},A[n]? = some (.ptr cs)→(i+n,p (i+n))∈EH p i A
 | [],_,n,_,h=>by simp at h
 | m::A,i,0,cs,h=>by simp at h;subst h;simp[EH]
 | m::A,i,n+1,cs,h=>by
  have h1:=Df (p:=p) (i:=i+1) (show A[n]? = some (.ptr cs) by simpa using h)
  rw[show i+1+n=i+(n+1) by omega]at h1
  cases m with
  | ptr cs=>exact List.mem_cons_of_mem _ h1
  | val=>exact h1
  | «mut»=>exact h1
def HG (φ:Nat→ab):Option (Option Nat)→ab
 | some (some t)=>φ t
 | _=>NO
theorem wI {u:Nat→Value} : ∀ {j0:Nat} {cs xs os:List C},Ht u j0 cs xs os→cs.length=os.length∧∀ (j:Nat) (c o:C),cs[j]? = some c→os[j]? = some o→∃ y,(dU c=true→xs[j]? = some y)∧J8 (u (j0+j)) c y o
 | _,[],xs,os,h=>by simp only[Ht]at h;subst h;exact⟨rfl,fun j c o h=>by simp at h⟩
 | _,_::_,[],_,h=>by simp only[Ht]at h
 | _,_::_,_::_,[],h=>by simp only[Ht]at h
 | j0,c0::cs,x0::xs,o0::os,h=>by
  simp only[Ht]at h
  obtain⟨h1,h2⟩:=wI h.2
  refine⟨by simp[h1],fun j c o hj ho=>?_⟩
  cases j with
  | zero=>simp at hj ho;subst hj ho;exact⟨x0,fun _=>rfl,h.1⟩
  | succ j=>
   obtain⟨y,e1,e2⟩:=h2 j c o (by simpa using hj) (by simpa using ho)
   exact⟨y,fun hc=>by simpa using e1 hc,by rw[show j0+(j+1)=j0+1+j by omega];exact e2⟩
theorem EW {S' Y Y':ab} {u tu:Nat→Value} {cs xs os:List C} {off:Nat} (hsame:ba S w w1) (hsub:∀ b o,S b o→S' b o) (h:cm w S Y cs u) (h':cm w1 S' Y' xs tu) (hb:Ht u 0 cs (xs.drop off) os):cm w1 S' Y' os u:=by
 obtain⟨f,h1,h2,h3⟩:=h
 obtain⟨f',h1',h2',h3'⟩:=h'
 obtain⟨hl,hg⟩:=wI hb
 refine⟨fun j b o=>off+j<xs.length∧f' (off+j) b o,fun j c hj=>?_,fun j hj b o hb=>h2' _ hb.1 b o hb.2,fun j j' hj hj' hne b o hb hb'=>h3' _ _ hb.1 hb'.1 (by omega) b o hb.2 hb'.2⟩
 have hjl:=(List.getElem?_eq_some_iff.1 hj).1
 have hcs:cs[j]? = some cs[j]:=List.getElem?_eq_getElem (by omega)
 obtain⟨y,hx,hbk⟩:=hg j _ c hcs hj
 rw[Nat.zero_add]at hbk
 have hrep:=h1 j _ hcs
 generalize cs[j]=c0 at hcs hbk hrep hx
 have keep:dU c0=false→c=c0→dK w1 S' (fun b o=>off+j<xs.length∧f' (off+j) b o) c (u j):=fun hi e=>by
  subst e
  exact((hrep.bare (F':=NO) hi).keep hsame (fun _ _ h=>h.elim)).mono hsub (fun _ _ h=>h.elim)
 cases c0 with
 | v x0=>exact keep rfl hbk
 | x=>exact keep rfl hbk
 | z=>exact keep rfl hbk
 | m es=>exact hbk.elim
 | it=>exact hbk.elim
 | s o rows=>
  cases o with
  | imm=>exact keep rfl hbk
  | tag z=>exact hbk.elim
  | own=>
   have hx:=hx rfl
   rw[List.getElem?_drop]at hx
   have hlt:=(List.getElem?_eq_some_iff.1 hx).1
   simp only[J8]at hbk
   split at hbk
   case h_2=>exact hbk.elim
   rename_i v' rows'
   obtain⟨rfl,rfl⟩:=hbk
   obtain⟨e1,e2⟩:=(h1' _ _ hx).untag
   rw[e1]at e2
   exact e2.mono (fun _ _ h=>h) (fun b o h=>⟨hlt,h⟩)
theorem aZ.backs {w':World} {S':ab} {u:Nat→Nat→Value} (h:aZ w0 M S0 N S' φ F a w') (hsame:ba S w w') (hsub:∀ b o,S b o→S' b o):∀ {A:List MA} {pl:List (Nat × Nat)} {B:List MA} {vs:List Value} {V:Nat→ab} {i:Nat},Hv w S V A vs→
  (∀ j v,vs[j]? = some v→u (i+j)=celF v)→(∀ j v cs,vs[j]? = some v→A[j]? = some (.ptr cs)→tvs a (i+j)=v)→gb u F i A pl B→zk w' S' (fun n=>HG φ (Ae i A pl)[n]?) B vs
 | [],pl,B,vs,V,i,hA,hu,hp,hb=>by
  cases vs with
  | cons _ _=>exact hA.elim
  | nil=>cases B with
   | nil=>trivial
   | cons _ _=>simp only[gb]at hb
 | m::A,[],B,vs,V,i,hA,hu,hp,hb=>by cases m<;>simp only[gb]at hb
 | m::A,p::pl,[],vs,V,i,hA,hu,hp,hb=>by cases m<;>simp only[gb]at hb
 | m::A,p::pl,m'::B,[],V,i,hA,hu,hp,hb=>hA.elim
 | m::A,p::pl,m'::B,v::vs,V,i,hA,hu,hp,hb=>by
  have next:gb u F (i+1) A pl B→zk w' S' (fun n=>HG φ (Ae (i+1) A pl)[n]?) B vs:=fun hb=>
   aZ.backs h hsame hsub hA.2 (fun j v hj=>by rw[show i+1+j=i+(j+1) by omega];exact hu (j+1) v (by simpa using hj))
    (fun j v cs hj hc=>by rw[show i+1+j=i+(j+1) by omega];exact hp (j+1) v cs (by simpa using hj) (by simpa using hc)) hb
  cases m with
  | val ag cs=>
   cases m' with
   | val ag' cs'=>simp only[gb]at hb;exact⟨trivial,next hb⟩
   | ptr=>simp only[gb]at hb
   | «mut»=>simp only[gb]at hb
  | «mut» ag cs=>
   cases m' with
   | val=>simp only[gb]at hb
   | ptr=>simp only[gb]at hb
   | «mut» ag' out=>
    simp only[gb]at hb
    obtain⟨⟨rfl,hb1⟩,hb2⟩:=hb
    refine⟨?_,next hb2⟩
    have hv:=bo.celF (show bo w S (V 0) ag' cs v from hA.1)
    have hu0:u i=celF v:=hu 0 v (by simp)
    have hs:=h.slot p.1
    cases hF:F p.1 with
    | hold k xs=>
     rw[hF]at hb1 hs
     simp only at hb1
     rw[hu0]at hb1
     obtain⟨X1,Y,e1,e2,e3,e4,e5⟩:=hs
     refine⟨by rw[←(wI hb1).1];exact hv.1,celF v,hv.2.1,?_⟩
     exact(EW hsame hsub hv.2.2 e5 hb1).mono (fun _ _ h=>h) (fun b o hb=>by simpa[Ae,HG] using e2 b o hb)
    | _=>rw[hF]at hb1;exact hb1.elim
  | ptr cs=>
   cases m' with
   | val=>simp only[gb]at hb
   | «mut»=>simp only[gb]at hb
   | ptr out=>
    simp only[gb]at hb
    refine⟨?_,next hb.2⟩
    have hv:tvs a i=v:=hp 0 v cs (by simp) (by simp)
    have hs:=h.slot i
    cases hF:F i with
    | hold k xs=>
     cases k with
     | box=>
      rw[hF]at hb hs
      have:=hb.1
      simp only at this
      subst this
      rw[hv]at hs
      obtain⟨X1,Y,e1,e2,e3,e4,e5⟩:=hs
      exact⟨X1,Y,fun b o hb=>by simpa[Ae,HG] using e1 b o hb,fun b o hb=>by simpa[Ae,HG] using e2 b o hb,e3,e4,e5⟩
     | _=>rw[hF]at hb;exact hb.1.elim
    | _=>rw[hF]at hb;exact hb.1.elim
theorem qn:∀ {l:List (Option Nat)},D3 l=true→∀ (i i' t t':Nat),i≠i'→l[i]? = some (some t)→l[i']? = some (some t')→t≠t'
 | [],_,i,i',t,t',_,h,_=>by simp at h
 | none::l,hok,i,i',t,t',hne,h,h'=>by
  cases i with
  | zero=>simp at h
  | succ i=>cases i' with
   | zero=>simp at h'
   | succ i'=>exact qn (l:=l) hok i i' t t' (by omega) (by simpa using h) (by simpa using h')
 | some t0::l,hok,i,i',t,t',hne,h,h'=>by
  simp only[D3,Bool.and_eq_true]at hok
  have hd:∀ (n s:Nat),l[n]? = some (some s)→t0≠s:=fun n s hn e=>by
   have:=List.all_eq_true.1 hok.1 _ (List.mem_of_getElem? hn)
   simp only[Bool.not_eq_true']at this
   rw[e,Nat.beq_refl]at this;cases this
  cases i with
  | zero=>
   simp at h;subst h
   cases i' with
   | zero=>exact absurd rfl hne
   | succ i'=>exact hd i' t' (by simpa using h')
  | succ i=>cases i' with
   | zero=>simp at h';subst h';exact fun e=>hd i t (by simpa using h) e.symm
   | succ i'=>exact qn hok.2 i i' t t' (by omega) (by simpa using h) (by simpa using h')
theorem rT:∀ {l:List (Option Nat)} {i t:Nat},l[i]? = some (some t)→t∈sles l
 | [],i,t,h=>by simp at h
 | none::l,i,t,h=>by
  cases i with
  | zero=>simp at h
  | succ i=>exact rT (l:=l) (i:=i) (by simpa using h)
 | some t0::l,i,t,h=>by
  cases i with
  | zero=>simp at h;subst h;simp[sles]
  | succ i=>exact List.mem_cons_of_mem _ (rT (l:=l) (i:=i) (by simpa using h))
theorem sE {φ:Nat→ab} {x:Option (Option Nat)} {b o:Nat} (h:HG φ x b o):∃ t,x=some (some t)∧φ t b o:=by
 match x,h with
 | some (some t),h=>exact⟨t,rfl,h⟩
 | some none,h=>exact h.elim
 | none,h=>exact h.elim
theorem Er {f : Nat} {fn : Func} {c : Code} {sh : Bool} {A B : List MA} {k : Kd} {rcs : List C} {mo : List (Nat × List Nat)} {n : Nat} (pl : List (Nat × Nat)) (hTE : ∀ t i, TE t = some i → b9 P t i) (hf : P.funcs[f]? = some fn) (hn : (fn.name == "runtime.NumGoroutine") = false)
  (hb:fn.body=some c) {ck:Nat→Array Oper→Bool} {D:fq→Nat→Array Oper→((Nat→AV)→Prop)→(Nat→AV)→Prop} (hD:∀ N,wC P N ck (D N)) (hc:gt ck c=true) (hN:A.length+(fn.ntmps - A.length)=n) (hok:D3 (Ae 0 A pl)=true) (hsh:sh=true∨fK rcs)
  (hp:∀ (u:Nat→Nat→Value) (p:Nat→Value),aw P TE ⟨n,EH p 0 A,mo⟩ (D ⟨n,EH p 0 A,mo⟩) c (Jd TE fn.results.toList k rcs u A B pl) (lay (uy u 0 A))):bm P f sh A B k rcs:=by
 refine⟨⟨fn,hf,hn,by rw[hb];rfl⟩,fun w S V vs hS hV hVd hA=>?_⟩
 have hlen:=Dd hA
 refine calls_of_wp hf hb ?_
 let u:Nat→Nat→Value:=fun i=>celF (vs.getD i undef)
 let p:Nat→Value:=fun i=>vs.getD i undef
 have htv:∀ t v,vs[t]? = some v→tvs {tmps:=vs.toArray++Array.replicate (fn.ntmps - vs.toArray.size) undef,defers:=[]} t=v:=fun t v h2=>by
  have hlt:=(List.getElem?_eq_some_iff.1 h2).1
  simp only[tvs,Array.getD_eq_getD_getElem?]
  rw[Array.getElem?_append_left (by simpa using hlt)]
  simp only[List.getElem?_toArray]
  rw[h2];rfl
 have hst:St w (fun b o=>∃ i,V i b o) S ⟨n,EH p 0 A,mo⟩ (lay (uy u 0 A)) {tmps:=vs.toArray++Array.replicate (fn.ntmps - vs.toArray.size) undef,defers:=[]} w:=by
  refine⟨S,V,fun t=>?_,hVd,fun t b o h=>(hV t b o h).2,fun t b o h=>⟨(hV t b o h).1,.inr ⟨t,h⟩⟩,fun _ _ h=>h,fun b o h=>⟨hS b o h,.inl h⟩,bu.refl _ _,by simp;omega,rfl,fun q hq=>?_⟩
  ·rcases vz (u:=u) 0 hA t with h1|⟨m,v,-,h2,h2',h3,h4⟩
   ·rw[h1];trivial
   ·rw[h3]
    rw[Nat.sub_zero]at h2 h4
    rw[htv t v h2]
    have hu:u t=celF v:=by show celF (vs.getD t undef)=_;rw[List.getD,h2];rfl
    cases m with
    | val ag cs=>exact(bo.mono (show bo w S NO ag cs v from h4) (fun _ _ h=>h) (fun _ _ h=>h.elim)).slot
    | «mut» ag cs=>
     obtain⟨e1,e2,e3⟩:=bo.celF (show bo w S (V t) ag cs v from h4)
     refine bo.slot ⟨by rw[mw];exact e1,celF v,e2,?_⟩
     rw[hu];exact e3.tag
    | ptr cs=>exact h4
  ·obtain⟨-,h1,h2⟩:=Dw hq
   rw[h2]
   have hlt:q.1<vs.length:=by omega
   refine htv _ _ ?_
   show vs[q.1]? = some (vs.getD q.1 undef)
   rw[List.getD,List.getElem?_eq_getElem hlt];rfl
 refine gR hTE (hD _) c hc _ _ _ _ w (hp u p) hst fun e F' a' w' he hs'=>?_
 obtain⟨S',φ',h⟩:=hs'
 have fin:resA TE F' fn.results.toList (sles (Ae 0 A pl)) (fun sh cs=>cY (io sh) k cs rcs (gb u F' 0 A pl B))→a'.defers=[]∧∃ v,(results fn a'.tmps).run P w'=.ok v w'∧(∃ v',Ending.returned v=.returned v'∧bu (fun b o=>∃ i,V i b o) w w'∧∃ (X:ab) (V':Nat→ab) (S1:ab),
     (∀ b o,X b o→(∃ i,V i b o)∨(b<w'.heap.size∧w.heap.size≤b))∧(∀ i b o,V' i b o→(∃ i,V i b o)∨(b<w'.heap.size∧w.heap.size≤b))∧
     (∀ b o,S1 b o→(sh=true∧S b o)∨(∃ i,V i b o)∨(b<w'.heap.size∧w.heap.size≤b))∧
     (∀ i i',i≠i'→∀ b o,V' i b o→¬V' i' b o)∧(∀ i b o,X b o→¬V' i b o)∧(∀ b o,X b o→¬S1 b o)∧(∀ i b o,V' i b o→¬S1 b o)∧
     fI w' NO k rcs.length v'∧cm w' S1 X rcs (cA w' k v')∧zk w' (fun b o=>S b o∨S1 b o) V' B vs):=by
  intro hr
  obtain⟨shs,cs,vs',u',hfin,hrun,hT,hln,hL,hcells,hone,hrow⟩:=h.resA hTE hr
  obtain⟨rfl,rfl,hback⟩:=hfin.out
  refine⟨h.defers,?_⟩
  have hrun2:(results fn a'.tmps).run P w'=.ok (if h:vs'.toArray.size=1 then vs'.toArray[0] else .tuple vs'.toArray) w':=by
   have e:results fn a'.tmps=(do let vs ←fn.results.mapM (y5 a'.tmps);pure (if h:vs.size=1 then vs[0] else .tuple vs)):=by
    unfold results
    congr 1
   rw[e,←Array.toArray_toList (xs:=fn.results),List.mapM_toArray]
   simp only[Sem.run_bind,Sem.run_map,hrun,Result.andThen_ok,Sem.run_pure]
  have hex:∀ t b o,φ' t b o→(∃ i,V i b o)∨(b<w'.heap.size∧w.heap.size≤b):=fun t b o hb=>(h.ex t b o hb).2.elim (fun h'=>.inr ⟨(h.ex t b o hb).1,h'⟩) .inl
  have hsameS:ba S w w':=fun b o hb=>by
   have hlt:=hS b o hb
   exact⟨h.old.cel b o hlt (fun⟨i,hi⟩=>(hV i b o hi).2 hb),h.old.fro b o hlt (fun⟨i,hi⟩=>(hV i b o hi).2 hb)⟩
  have hm:=h.backs (u:=u) hsameS h.sub hA (fun j v hj=>by show celF (vs.getD (0+j) undef)=_;rw[Nat.zero_add,List.getD,hj];rfl) (fun j v cs hj hc=>by
    have:=h.par _ (Df (p:=p) (i:=0) hc)
    rw[this]
    show vs.getD (0+j) undef=v
    rw[Nat.zero_add,List.getD,hj];rfl) hback
  refine⟨_,hrun2,_,rfl,h.old,fun b o=>∃ t,t∉sles (Ae 0 A pl)∧φ' t b o,fun i=>HG φ' (Ae 0 A pl)[i]?,fun b o=>(sh=true∧S' b o)∨(S' b o∧((∃ i,V i b o)∨w.heap.size≤b)),fun b o ⟨t,_,hb⟩=>hex t b o hb,fun i b o hb=>?_,fun b o hb=>?_,fun i i' hne b o hb hb'=>?_,fun i b o ⟨t,ht,hb⟩ hb'=>?_,fun b o ⟨t,_,hb⟩ hb'=>h.disS t b o hb (hb'.elim (·.2) (·.1)),fun i b o hb hb'=>?_,?_⟩
  ·obtain⟨t,-,hb⟩:=sE hb
   exact hex t b o hb
  ·rcases hb with⟨h1,h2⟩|⟨h1,h2⟩
   ·rcases(h.sup b o h2).2 with h3|h3|h3
    ·exact .inl ⟨h1,h3⟩
    ·exact .inr (.inr ⟨(h.sup b o h2).1,h3⟩)
    ·exact .inr (.inl h3)
   ·rcases h2 with h2|h2
    ·exact .inr (.inl h2)
    ·exact .inr (.inr ⟨(h.sup b o h1).1,h2⟩)
  ·obtain⟨t,e1,hb⟩:=sE hb
   obtain⟨t',e2,hb'⟩:=sE hb'
   exact h.dis t t' (qn hok i i' t t' hne e1 e2) b o hb hb'
  ·obtain⟨t',e2,hb'⟩:=sE hb'
   exact h.dis t t' (fun e=>ht (by rw[e];exact rT e2)) b o hb hb'
  ·obtain⟨t,-,hb⟩:=sE hb
   exact h.disS t b o hb (hb'.elim (·.2) (·.1))
  ·have hk:fI w' NO (io shs) cs.length (if h:vs'.toArray.size=1 then vs'.toArray[0] else .tuple vs'.toArray)∧cm w' S' (fun b o=>∃ t,t∉sles (Ae 0 A pl)∧φ' t b o) cs (cA w' (io shs) (if h:vs'.toArray.size=1 then vs'.toArray[0] else .tuple vs'.toArray)):=by
    match shs,hT,hone,hL with
    | [],hT,_,hL=>
     cases vs' with
     | cons _ _=>exact hT.elim
     | nil=>
      have:cs=[]:=List.eq_nil_of_length_eq_zero (by simpa[n0] using hL.symm)
      subst this
      exact⟨⟨_,rfl,trivial,rfl⟩,cm.nil _ _ _ _⟩
    | [ag],_,hone,_=>
     obtain⟨v,rfl,hv⟩:=hone ag rfl
     have:=hv.slot (F:=F') (tv:=tvs a')
     obtain⟨X1,Y,h1,h2,h3,h4,h5⟩:=this
     refine⟨?_,h5.mono (fun _ _ h=>h) h2⟩
     cases ag<;>exact h4
    | ag::ag2::sh,hT,_,hL=>
     have hsz:¬vs'.toArray.size=1:=by
      match vs',hT with
      | [],hT=>simp
      | [v],hT=>cases ag<;>cases ag2<;>exact hT.2.elim
      | _::_::_,_=>simp
     rw[dif_neg hsz]
     refine⟨⟨_,rfl,hT,hL⟩,hrow.congr fun j hj=>?_⟩
     simp only[cA,io,kL,hcells]
     simp[List.getD,hj]
   refine⟨hk.1,?_,hm.mono fun b o hb=>?_⟩
   ·rcases hsh with h1|h1
    ·exact hk.2.mono (fun b o hb=>.inl ⟨h1,hb⟩) (fun _ _ h=>h)
    ·exact(hk.2.fresh h1).mono (fun _ _ h=>h.elim) (fun _ _ h=>h)
   ·rcases(h.sup b o hb).2 with h3|h3|h3
    ·exact .inl h3
    ·exact .inr (.inr ⟨hb,.inr h3⟩)
    ·exact .inr (.inr ⟨hb,.inl h3⟩)
 cases e with
 | normal=>exact fin he
 | ret=>exact fin he
 | _=>exact he.elim
end
end Go.Proofs.YtogajjgmcnjkbaaGreat.Ab
namespace Go.Proofs.YtogajjgmcnjkbaaGreat.Ab
open Go.RowKit
abbrev I (z:Int):C:=.v (.int .i64 z)
abbrev B (b:Bool):C:=.v (.bool b)
def rI (_:dy) (z:Int):List C:=[I z]
def rB (_:dy) (b:Bool):List C:=[B b]
theorem pp (z:Int):fK (rI .own z):=⟨trivial,trivial⟩
theorem v8 (b:Bool):fK (rB .own b):=⟨trivial,trivial⟩
def gz (z:Int):Prop:=-9223372036854775808≤z∧z≤9223372036854775807
def Jx (_:Bool):Prop:=True
def hB (s:Nat) (left:Int):Int:=if(s:Int)≤left then left - s else -1
theorem tF : Tryz.prog.follows .mixedOrders=true:=by kernel_rfl
theorem nn {n f : Nat} {mo : List (Nat × List Nat)} {fn : Func} {c : Code} {sh : Bool} {A : List RA} {k : Kd} {rcs : List C} (hf : Tryz.prog.funcs[f]? = some fn) (hn : (fn.name == "runtime.NumGoroutine") = false) (hb : fn.body = some c) {tb : List (Nat × Nat × List Nat)} (hc : gt (qx tb) c = true)
  (hN:A.length+(fn.ntmps - A.length)=n) (hsh:sh=true∨fK rcs) (hp:aw Tryz.prog TE ⟨n,[],mo⟩ (DF Tryz.prog TE ⟨n,[],mo⟩ tb) c (H9 TE fn.results.toList k rcs) (lay (zl 0 A))):af Tryz.prog f sh A k rcs:=
 E7 sq hf hn hb (tB sq tF ⟨n,[],mo⟩ tb) hc hN rfl hsh hp
theorem bL {n f : Nat} {mo : List (Nat × List Nat)} {fn : Func} {c : Code} {sh : Bool} {A B : List MA} {k : Kd} {rcs : List C} (pl : List (Nat × Nat)) (hf : Tryz.prog.funcs[f]? = some fn) (hn : (fn.name == "runtime.NumGoroutine") = false) (hb : fn.body = some c) {tb : List (Nat × Nat × List Nat)} (hc : gt (qx tb) c = true)
  (hN:A.length+(fn.ntmps - A.length)=n) (hok:D3 (Ae 0 A pl)=true) (hsh:sh=true∨fK rcs)
  (hp:∀ (u:Nat→Nat→Value) (p:Nat→Value),aw Tryz.prog TE ⟨n,EH p 0 A,mo⟩ (DF Tryz.prog TE ⟨n,EH p 0 A,mo⟩ tb) c (Jd TE fn.results.toList k rcs u A B pl) (lay (uy u 0 A))):bm Tryz.prog f sh A B k rcs:=
 Er pl sq hf hn hb (fun N=>tB sq tF N tb) hc hN hok hsh hp
theorem fV {x:Int} (h1 : -9223372036854775808≤x) (h2:x≤9223372036854775807):IntKind.i64.wrap x=x:=IntWalk.i64_in x (by constructor<;>assumption)
def Fd:RA→RA→Prop
 | .val ag cs,.val ag' cs'=>ag=ag'∧cs=cs'
 | .ptr cs,.ptr cs'=>cs=cs'
 | A,A'=>A=A'
theorem Fd.eq {A A':RA} (h:Fd A A'):A=A':=by
 unfold Fd at h
 split at h
 ·obtain⟨rfl,rfl⟩:=h;rfl
 ·rw[h]
 ·exact h
def yh:List RA→List RA→Prop
 | [],[]=>True
 | A::As,B::Bs=>Fd A B∧yh As Bs
 | _,_=>False
theorem yh.eq:∀ {A A':List RA},yh A A'→A=A'
 | [],[],_=>rfl
 | A::As,B::Bs,h=>by rw[Fd.eq h.1,yh.eq h.2]
 | [],_::_,h=>h.elim
 | _::_,[],h=>h.elim
theorem Cl.eq {P:Program} {f:Nat} {b:Bool} {A A':List RA} {K:AV→Prop} {k:Kd} {rcs:List C} (h:af P f false A' k rcs) (hA:yh A A') (hK:K (.hold k rcs)):Cl P f b A K:=by rw[hA.eq];exact Cl.mk h hK
theorem tO {n b:Nat} (h:n≤1048576) (hb:b≤1000):n*b≤140737488355328:=Nat.le_trans (Nat.mul_le_mul h hb) (by decide)
theorem Cl.sz {P:Program} {f:Nat} {b:Bool} {A:List RA} {K:AV→Prop} {s:Nat} {L:Int} (h:af P f false A .one [I (hB s L)]) (h1:L<s→K (.hold .one [I (-1)])) (h2:(s:Int)≤L→K (.hold .one [I (L - s)])):Cl P f b A K:=by
 refine Cl.mk h ?_
 unfold hB
 by_cases hs:(s:Int)≤L
 ·rw[if_pos hs];exact h2 hs
 ·rw[if_neg hs];exact h1 (by omega)
theorem Bf.NB {a b:Bool} {X Y:Prop} (h1:a≠b→X) (h2:a=b→Y):Bf (a != b) X Y:=by
 refine Bf.P (fun h=>h1 ?_) (fun h=>h2 ?_)
 ·simpa using h
 ·simpa using h
theorem Rw.one {bs:List C} {off i k j:Nat} {K:List C→Nat→Prop} {o:dy} {rows:List (List C)} {r:List C} (h1:bs[off]? = some (.s o rows)) (h2:rows[i]? = some r) (h3:r.length=k) (hK:K r j):Rw bs off [(i,k,j)] K:=
 Rw.mk (r:=r) (j:=j) (by simp[bD,h1,h2,h3]) hK
theorem bg {α:Type} {l:List α} {i:Nat} {r r':α} (h:l[i]? = some r):(l.set i r')[i]? = some r':=by
 rw[List.getElem?_set_self (List.getElem?_eq_some_iff.1 h).1]
def eS {α:Type} (A B:List α) (i:Nat):List α:=A.take i++B.drop i
section
variable {α:Type} {A B:List α}
theorem bP:eS A B 0=B:=by simp[eS]
theorem cQ (i:Nat) (h:A.length=B.length) (hi:i=B.length):eS A B i=A:=by subst hi;simp[eS,←h]
theorem fE (h:A.length=B.length) (i:Nat):(eS A B i).length=B.length:=by simp[eS];omega
theorem cT (h:A.length=B.length) (i:Nat) (hi:i≤B.length):(eS A B i)[i]? = B[i]?:=by
 unfold eS
 rw[List.getElem?_append_right (by simp;omega),List.getElem?_drop]
 congr 1
 simp
 omega
theorem bv (h:A.length=B.length) {i:Nat} {a:α} (ha:A[i]? = some a):(eS A B i).set i a=eS A B (i+1):=by
 have hi:=(List.getElem?_eq_some_iff.1 ha).1
 unfold eS
 rw[List.set_append_right _ _ (by simp;omega)]
 have h1:i - (A.take i).length=0:=by simp;omega
 rw[h1,List.take_add_one,ha,List.append_assoc,List.drop_eq_getElem_cons (show i<B.length by omega)]
 rfl
end
theorem aa {α β:Type} {f:α→β} {l:List α} {k:Nat} {x:α} (h:l[k]? = some x):(l.map f)[k]? = some (f x):=by simp[h]
theorem fG {α:Type} {z:α} {n k:Nat} (h:k<n):(List.replicate n z)[k]? = some z:=by simp[h]
end Go.Proofs.YtogajjgmcnjkbaaGreat.Ab
namespace Go.Proofs.YtogajjgmcnjkbaaGreat.Ab
open Go.RowKit
def aI (o:dy) (x:List Int):List C:=[.s o (x.map (rI o))]
theorem eC (x:List Int):dV (aI .own x)=aI .imm x:=by simp[dV,aI,rI,dV]
theorem bZ (x:List Int):fK (aI .own x):=⟨⟨.inl fun h=>(by cases h),aO _ _ fun y _=>pp y⟩,trivial⟩
def pN (x:List Int):Prop:=x.length≤9223372036854775807∧∀ y∈x,gz y
def d9 (x:List Int):Nat:=x.length
def szIntS (x:List Int):Nat:=x.length
def iT (x:List Int):Prop:=x.length≤1048576
def markIntS:List Int→Int→List Int
 | [],_=>[]
 | _::xs,k=>k::markIntS xs (k+1)
theorem lE:∀ (x:List Int) (k:Int),(markIntS x k).length=x.length
 | [],_=>rfl
 | _::xs,k=>by simp[markIntS,lE xs]
theorem ly:∀ (x:List Int) (k:Int) (i:Nat),i<x.length→(markIntS x k)[i]? = some (k+(i:Nat))
 | [],_,i,h=>by simp at h
 | _::xs,k,0,_=>by simp[markIntS]
 | _::xs,k,i+1,h=>by
  simp only[markIntS,List.getElem?_cons_succ]
  rw[ly xs (k+1) i (by simpa using h)]
  rw[show k+1+(i:Int)=k+((i+1:Nat):Int) by omega]
def gJ (_:List Int) (i:Nat):Nat:=i
theorem lC {x:List Int} (h:szIntS x≤1048576):iT x:=h
theorem kX (x:List Int):d9 x≤8*szIntS x:=by unfold d9 szIntS;omega
def d5 (o:dy) (x:List (List Int)):List C:=[.s o (x.map (aI o))]
theorem DA (x:List (List Int)):fK (d5 .own x):=⟨⟨.inl fun h=>(by cases h),aO _ _ fun y _=>bZ y⟩,trivial⟩
def pt (x:List (List Int)):Prop:=x.length≤9223372036854775807∧∀ y∈x,pN y
def cW:List (List Int)→Nat
 | []=>0
 | x::xs=>d9 x+cW xs
def fy:List (List Int)→Nat
 | []=>0
 | x::xs=>szIntS x+fy xs
def szIntSS (x:List (List Int)):Nat:=x.length+fy x
def gQ (x:List (List Int)):Prop:=x.length≤1048576∧∀ y∈x,iT y
def markIntSS:List (List Int)→Int→List (List Int)
 | [],_=>[]
 | x::xs,k=>markIntS x k::markIntSS xs (k+(d9 x:Nat))
theorem kx:∀ (x:List (List Int)) (k:Int),(markIntSS x k).length=x.length
 | [],_=>rfl
 | _::xs,k=>by simp[markIntSS,kx xs]
def dw:List (List Int)→Nat→Nat
 | [],_=>0
 | _::_,0=>0
 | x::xs,i+1=>d9 x+dw xs i
theorem kw:∀ (x:List (List Int)) (k:Int) (i:Nat) (y:List Int),x[i]? = some y→(markIntSS x k)[i]? = some (markIntS y (k+(dw x i:Nat)))
 | [],_,i,y,h=>by simp at h
 | x::xs,k,0,y,h=>by simp at h;subst h;simp[markIntSS,dw]
 | x::xs,k,i+1,y,h=>by
  simp only[markIntSS,List.getElem?_cons_succ]
  rw[kw xs _ i y (by simpa using h)]
  congr 2
  simp only[dw]
  omega
theorem kv (x:List (List Int)):dw x 0=0:=by cases x<;>rfl
theorem jX:∀ (x:List (List Int)) (i:Nat) (y:List Int),x[i]? = some y→dw x (i+1)=dw x i+d9 y
 | [],i,y,h=>by simp at h
 | x::xs,0,y,h=>by simp at h;subst h;simp[dw,kv]
 | x::xs,i+1,y,h=>by
  simp only[dw]
  rw[jX xs i y (by simpa using h)]
  omega
theorem lw:∀ (x:List (List Int)),dw x x.length=cW x
 | []=>rfl
 | x::xs=>by simp only[List.length_cons,dw,cW,lw xs]
theorem oY:∀ {x:List (List Int)} {y:List Int},y∈x→szIntS y≤fy x
 | [],y,h=>by simp at h
 | x::xs,y,h=>by
  simp only[fy]
  rcases List.mem_cons.1 h with rfl|h
  ·omega
  ·have:=oY h;omega
theorem mc {x:List (List Int)} (h:szIntSS x≤1048576):gQ x:=⟨by unfold szIntSS at h;omega,fun y hy=>lC (by have:=oY hy;unfold szIntSS at h;omega)⟩
theorem oZ:∀ (x:List (List Int)),cW x≤8*fy x
 | []=>by simp[cW]
 | x::xs=>by have:=oZ xs;have:=kX x;simp only[cW,fy];omega
theorem mM (x:List (List Int)):cW x≤8*szIntSS x:=by have:=oZ x;unfold szIntSS;omega
def dz:List (List Int)→Nat→Nat
 | [],_=>0
 | _::_,0=>0
 | x::xs,i+1=>szIntS x+dz xs i
theorem jF (x:List (List Int)):dz x 0=0:=by cases x<;>rfl
theorem mB:∀ (x:List (List Int)) (i:Nat) (y:List Int),x[i]? = some y→dz x (i+1)=dz x i+szIntS y
 | [],i,y,h=>by simp at h
 | x::xs,0,y,h=>by simp at h;subst h;simp[dz,jF]
 | x::xs,i+1,y,h=>by
  simp only[dz]
  rw[mB xs i y (by simpa using h)]
  omega
theorem nB:∀ (x:List (List Int)),dz x x.length=fy x
 | []=>rfl
 | x::xs=>by simp only[List.length_cons,dz,fy,nB xs]
theorem lK:∀ (x:List (List Int)) (i:Nat),dz x i≤fy x
 | [],_=>by simp[dz]
 | x::xs,0=>by simp[dz]
 | x::xs,i+1=>by simp only[dz,fy];have:=lK xs i;omega
theorem m9:∀ (x:List (List Int)) (i:Nat),dw x i≤cW x
 | [],_=>by simp[dw]
 | x::xs,0=>by simp[dw]
 | x::xs,i+1=>by simp only[dw,cW];have:=m9 xs i;omega
def fR (o:dy) (x:List Bool):List C:=[.s o (x.map (rB o))]
theorem Ea (x:List Bool):fK (fR .own x):=⟨⟨.inl fun h=>(by cases h),aO _ _ fun y _=>v8 y⟩,trivial⟩
def wv (x:List Bool):Prop:=x.length≤9223372036854775807∧∀ y∈x,Jx y
def eB (x:List Bool):Nat:=x.length
def szBoolS (x:List Bool):Nat:=x.length
def kO (x:List Bool):Prop:=x.length≤1048576
def markBoolS:List Bool→Int→List Bool
 | [],_=>[]
 | _::xs,k=>decide (k.tmod 3=0)::markBoolS xs (k+1)
theorem ki:∀ (x:List Bool) (k:Int),(markBoolS x k).length=x.length
 | [],_=>rfl
 | _::xs,k=>by simp[markBoolS,ki xs]
theorem ka:∀ (x:List Bool) (k:Int) (i:Nat),i<x.length→(markBoolS x k)[i]? = some (decide ((k+(i:Nat)).tmod 3=0))
 | [],_,i,h=>by simp at h
 | _::xs,k,0,_=>by simp[markBoolS]
 | _::xs,k,i+1,h=>by
  simp only[markBoolS,List.getElem?_cons_succ]
  rw[ka xs (k+1) i (by simpa using h)]
  rw[show k+1+(i:Int)=k+((i+1:Nat):Int) by omega]
def fx (_:List Bool) (i:Nat):Nat:=i
theorem xW {x:List Bool} (h:szBoolS x≤1048576):kO x:=h
theorem yb (x:List Bool):eB x≤8*szBoolS x:=by unfold eB szBoolS;omega
structure aC where
 Cells:List (List Int)
 Used:List Bool
deriving DecidableEq,Inhabited
def aC.enc (o:dy) (x:aC):List C:=[.s o (x.Cells.map (aI o)),.s o (x.Used.map (rB o))]
theorem aC.enc_fz (x:aC):dV (aC.enc .own x)=aC.enc .imm x:=by simp[dV,aC.enc,rB,eC,←cR,Function.comp_def]
theorem aC.enc_fr (x:aC):fK (aC.enc .own x):=⟨⟨.inl fun h=>(by cases h),aO _ _ fun y _=>bZ y⟩,⟨.inl fun h=>(by cases h),aO _ _ fun y _=>v8 y⟩,trivial⟩
def aC.wf (x:aC):Prop:=pt x.Cells∧wv x.Used
def aC.cnt (x:aC):Nat:=cW x.Cells+eB x.Used
def aC.sz (x:aC):Nat:=szIntSS x.Cells+szBoolS x.Used
def aC.sml (x:aC):Prop:=gQ x.Cells∧kO x.Used
theorem aC.sml_of {x:aC} (h:aC.sz x≤1048576):aC.sml x:=⟨mc (by unfold aC.sz at h;omega),xW (by unfold aC.sz at h;omega)⟩
theorem aC.cnt_le (x:aC):aC.cnt x≤8*aC.sz x:=by unfold aC.cnt aC.sz;have:=mM x.Cells;have:=yb x.Used;omega
def aC.mark (x:aC) (k:Int):aC:={x with Cells:=markIntSS x.Cells (k),Used:=markBoolS x.Used (k+(cW x.Cells:Nat))}
structure aE where
 Mode:Int
 Frame:Int
deriving DecidableEq,Inhabited
def aE.enc (o:dy) (x:aE):List C:=[I x.Mode,I x.Frame]
theorem aE.enc_fz (x:aE):dV (aE.enc .own x)=aE.enc .imm x:=by simp[dV,aE.enc]
theorem aE.enc_fr (x:aE):fK (aE.enc .own x):=⟨trivial,trivial,trivial⟩
def aE.wf (x:aE):Prop:=gz x.Mode∧gz x.Frame
def aE.cnt (_:aE):Nat:=2
def aE.sml (_:aE):Prop:=True
def aE.sz (_:aE):Nat:=0
theorem aE.sml_of {x:aE} (_:aE.sz x≤1048576):aE.sml x:=trivial
def aE.mark (_:aE) (k:Int):aE:=⟨k,k+1⟩
def d6 (o:dy) (x:List aE):List C:=[.s o (x.map (aE.enc o))]
theorem zB (x:List aE):fK (d6 .own x):=⟨⟨.inl fun h=>(by cases h),aO _ _ fun y _=>aE.enc_fr y⟩,trivial⟩
def pH (x:List aE):Prop:=x.length≤9223372036854775807∧∀ y∈x,aE.wf y
def cJ:List aE→Nat
 | []=>0
 | x::xs=>aE.cnt x+cJ xs
def jb (x:List aE):Nat:=x.length
def gD (x:List aE):Prop:=x.length≤1048576∧∀ y∈x,aE.sml y
def df:List aE→Int→List aE
 | [],_=>[]
 | x::xs,k=>aE.mark x k::df xs (k+(aE.cnt x:Nat))
theorem ia:∀ (x:List aE) (k:Int),(df x k).length=x.length
 | [],_=>rfl
 | _::xs,k=>by simp[df,ia xs]
def bT:List aE→Nat→Nat
 | [],_=>0
 | _::_,0=>0
 | x::xs,i+1=>aE.cnt x+bT xs i
theorem hC:∀ (x:List aE) (k:Int) (i:Nat) (y:aE),x[i]? = some y→(df x k)[i]? = some (aE.mark y (k+(bT x i:Nat)))
 | [],_,i,y,h=>by simp at h
 | x::xs,k,0,y,h=>by simp at h;subst h;simp[df,bT]
 | x::xs,k,i+1,y,h=>by
  simp only[df,List.getElem?_cons_succ]
  rw[hC xs _ i y (by simpa using h)]
  congr 2
  simp only[bT]
  omega
theorem iz (x:List aE):bT x 0=0:=by cases x<;>rfl
theorem iC:∀ (x:List aE) (i:Nat) (y:aE),x[i]? = some y→bT x (i+1)=bT x i+aE.cnt y
 | [],i,y,h=>by simp at h
 | x::xs,0,y,h=>by simp at h;subst h;simp[bT,iz]
 | x::xs,i+1,y,h=>by
  simp only[bT]
  rw[iC xs i y (by simpa using h)]
  omega
theorem jD:∀ (x:List aE),bT x x.length=cJ x
 | []=>rfl
 | x::xs=>by simp only[List.length_cons,bT,cJ,jD xs]
theorem uC {x:List aE} (h:jb x≤1048576):gD x:=⟨h,fun _ _=>trivial⟩
theorem nD:∀ (x:List aE),cJ x≤8*jb x
 | []=>by simp[cJ]
 | x::xs=>by have:=nD xs;simp only[cJ,jb,List.length_cons,aE.cnt]at this ⊢;omega
theorem jW:∀ (x:List aE) (i:Nat),bT x i≤cJ x
 | [],_=>by simp[bT]
 | x::xs,0=>by simp[bT]
 | x::xs,i+1=>by simp only[bT,cJ];have:=jW xs i;omega
structure aB where
 Entries:List aE
deriving DecidableEq,Inhabited
def aB.enc (o:dy) (x:aB):List C:=[.s o (x.Entries.map (aE.enc o))]
theorem aB.enc_fz (x:aB):dV (aB.enc .own x)=aB.enc .imm x:=by simp[dV,aB.enc,aE.enc_fz,←cR,Function.comp_def]
theorem aB.enc_fr (x:aB):fK (aB.enc .own x):=⟨⟨.inl fun h=>(by cases h),aO _ _ fun y _=>aE.enc_fr y⟩,trivial⟩
def aB.wf (x:aB):Prop:=pH x.Entries
def aB.cnt (x:aB):Nat:=cJ x.Entries
def aB.sz (x:aB):Nat:=jb x.Entries
def aB.sml (x:aB):Prop:=gD x.Entries
theorem aB.sml_of {x:aB} (h:aB.sz x≤1048576):aB.sml x:=uC (by unfold aB.sz at h;omega)
theorem aB.cnt_le (x:aB):aB.cnt x≤8*aB.sz x:=by unfold aB.cnt aB.sz;have:=nD x.Entries;omega
def aB.mark (x:aB) (k:Int):aB:={x with Entries:=df x.Entries (k)}
structure aA where
 Frames:aC
 Table:aB
deriving DecidableEq,Inhabited
def aA.enc (o:dy) (x:aA):List C:=[.s o (x.Frames.Cells.map (aI o)),.s o (x.Frames.Used.map (rB o)),.s o (x.Table.Entries.map (aE.enc o))]
theorem aA.enc_fz (x:aA):dV (aA.enc .own x)=aA.enc .imm x:=by simp[dV,aA.enc,aE.enc_fz,rB,eC,←cR,Function.comp_def]
theorem aA.enc_fr (x:aA):fK (aA.enc .own x):=⟨⟨.inl fun h=>(by cases h),aO _ _ fun y _=>bZ y⟩,⟨.inl fun h=>(by cases h),aO _ _ fun y _=>v8 y⟩,⟨.inl fun h=>(by cases h),aO _ _ fun y _=>aE.enc_fr y⟩,trivial⟩
def aA.wf (x:aA):Prop:=aC.wf x.Frames∧aB.wf x.Table
def aA.cnt (x:aA):Nat:=aC.cnt x.Frames+aB.cnt x.Table
def aA.sz (x:aA):Nat:=aC.sz x.Frames+aB.sz x.Table
def aA.sml (x:aA):Prop:=aC.sml x.Frames∧aB.sml x.Table
theorem aA.sml_of {x:aA} (h:aA.sz x≤1048576):aA.sml x:=⟨aC.sml_of (by unfold aA.sz at h;omega),aB.sml_of (by unfold aA.sz at h;omega)⟩
theorem aA.cnt_le (x:aA):aA.cnt x≤8*aA.sz x:=by unfold aA.cnt aA.sz;have:=aC.cnt_le x.Frames;have:=aB.cnt_le x.Table;omega
def aA.mark (x:aA) (k:Int):aA:={x with Frames:=aC.mark x.Frames (k),Table:=aB.mark x.Table (k+(aC.cnt x.Frames:Nat))}
structure ao where
 Machine:aA
 Calls:Int
 Refuse:List Int
deriving DecidableEq,Inhabited
def ao.enc (o:dy) (x:ao):List C:=[.s o (x.Machine.Frames.Cells.map (aI o)),.s o (x.Machine.Frames.Used.map (rB o)),.s o (x.Machine.Table.Entries.map (aE.enc o)),I x.Calls,.s o (x.Refuse.map (rI o))]
theorem ao.enc_fz (x:ao):dV (ao.enc .own x)=ao.enc .imm x:=by simp[dV,ao.enc,aE.enc_fz,rB,rI,eC,←cR,Function.comp_def]
theorem ao.enc_fr (x:ao):fK (ao.enc .own x):=⟨⟨.inl fun h=>(by cases h),aO _ _ fun y _=>bZ y⟩,⟨.inl fun h=>(by cases h),aO _ _ fun y _=>v8 y⟩,⟨.inl fun h=>(by cases h),aO _ _ fun y _=>aE.enc_fr y⟩,trivial,⟨.inl fun h=>(by cases h),aO _ _ fun y _=>pp y⟩,trivial⟩
def ao.wf (x:ao):Prop:=aA.wf x.Machine∧gz x.Calls∧pN x.Refuse
def ao.cnt (x:ao):Nat:=aA.cnt x.Machine+d9 x.Refuse
def ao.sz (x:ao):Nat:=aA.sz x.Machine+szIntS x.Refuse
def ao.sml (x:ao):Prop:=aA.sml x.Machine∧iT x.Refuse
theorem ao.sml_of {x:ao} (h:ao.sz x≤1048576):ao.sml x:=⟨aA.sml_of (by unfold ao.sz at h;omega),lC (by unfold ao.sz at h;omega)⟩
theorem ao.cnt_le (x:ao):ao.cnt x≤8*ao.sz x:=by unfold ao.cnt ao.sz;have:=aA.cnt_le x.Machine;have:=kX x.Refuse;omega
def ao.mark (x:ao) (k:Int):ao:={x with Machine:=aA.mark x.Machine (k),Refuse:=markIntS x.Refuse (k+(aA.cnt x.Machine:Nat))}
structure al where
 At:Int
 Len:Int
deriving DecidableEq,Inhabited
def al.enc (o:dy) (x:al):List C:=[I x.At,I x.Len]
theorem al.enc_fz (x:al):dV (al.enc .own x)=al.enc .imm x:=by simp[dV,al.enc]
theorem al.enc_fr (x:al):fK (al.enc .own x):=⟨trivial,trivial,trivial⟩
def al.wf (x:al):Prop:=gz x.At∧gz x.Len
def al.cnt (_:al):Nat:=2
def al.sml (_:al):Prop:=True
def al.sz (_:al):Nat:=0
theorem al.sml_of {x:al} (_:al.sz x≤1048576):al.sml x:=trivial
def al.mark (_:al) (k:Int):al:=⟨k,k+1⟩
def aT (o:dy) (x:List al):List C:=[.s o (x.map (al.enc o))]
theorem gP (x:List al):dV (aT .own x)=aT .imm x:=by simp[dV,aT,al.enc_fz,←cR,Function.comp_def]
theorem jQ (x:List al):fK (aT .own x):=⟨⟨.inl fun h=>(by cases h),aO _ _ fun y _=>al.enc_fr y⟩,trivial⟩
def qq (x:List al):Prop:=x.length≤9223372036854775807∧∀ y∈x,al.wf y
def bz:List al→Nat
 | []=>0
 | x::xs=>al.cnt x+bz xs
def je (x:List al):Nat:=x.length
def dr (x:List al):Prop:=x.length≤1048576∧∀ y∈x,al.sml y
def dh:List al→Int→List al
 | [],_=>[]
 | x::xs,k=>al.mark x k::dh xs (k+(al.cnt x:Nat))
theorem ij:∀ (x:List al) (k:Int),(dh x k).length=x.length
 | [],_=>rfl
 | _::xs,k=>by simp[dh,ij xs]
def bS:List al→Nat→Nat
 | [],_=>0
 | _::_,0=>0
 | x::xs,i+1=>al.cnt x+bS xs i
theorem iD:∀ (x:List al) (k:Int) (i:Nat) (y:al),x[i]? = some y→(dh x k)[i]? = some (al.mark y (k+(bS x i:Nat)))
 | [],_,i,y,h=>by simp at h
 | x::xs,k,0,y,h=>by simp at h;subst h;simp[dh,bS]
 | x::xs,k,i+1,y,h=>by
  simp only[dh,List.getElem?_cons_succ]
  rw[iD xs _ i y (by simpa using h)]
  congr 2
  simp only[bS]
  omega
theorem hO (x:List al):bS x 0=0:=by cases x<;>rfl
theorem i9:∀ (x:List al) (i:Nat) (y:al),x[i]? = some y→bS x (i+1)=bS x i+al.cnt y
 | [],i,y,h=>by simp at h
 | x::xs,0,y,h=>by simp at h;subst h;simp[bS,hO]
 | x::xs,i+1,y,h=>by
  simp only[bS]
  rw[i9 xs i y (by simpa using h)]
  omega
theorem jy:∀ (x:List al),bS x x.length=bz x
 | []=>rfl
 | x::xs=>by simp only[List.length_cons,bS,bz,jy xs]
theorem uh {x:List al} (h:je x≤1048576):dr x:=⟨h,fun _ _=>trivial⟩
theorem n6:∀ (x:List al),bz x≤8*je x
 | []=>by simp[bz]
 | x::xs=>by have:=n6 xs;simp only[bz,je,List.length_cons,al.cnt]at this ⊢;omega
theorem kn:∀ (x:List al) (i:Nat),bS x i≤bz x
 | [],_=>by simp[bS]
 | x::xs,0=>by simp[bS]
 | x::xs,i+1=>by simp only[bS,bz];have:=kn xs i;omega
structure am where
 Page:Int
 Class:Int
 Bits:Int
deriving DecidableEq,Inhabited
def am.enc (o:dy) (x:am):List C:=[I x.Page,I x.Class,I x.Bits]
theorem am.enc_fz (x:am):dV (am.enc .own x)=am.enc .imm x:=by simp[dV,am.enc]
theorem am.enc_fr (x:am):fK (am.enc .own x):=⟨trivial,trivial,trivial,trivial⟩
def am.wf (x:am):Prop:=gz x.Page∧gz x.Class∧gz x.Bits
def am.cnt (_:am):Nat:=3
def am.sml (_:am):Prop:=True
def am.sz (_:am):Nat:=0
theorem am.sml_of {x:am} (_:am.sz x≤1048576):am.sml x:=trivial
def am.mark (_:am) (k:Int):am:=⟨k,k+1,k+1+1⟩
def bt (o:dy) (x:List am):List C:=[.s o (x.map (am.enc o))]
theorem dG (x:List am):dV (bt .own x)=bt .imm x:=by simp[dV,bt,am.enc_fz,←cR,Function.comp_def]
theorem BA (x:List am):fK (bt .own x):=⟨⟨.inl fun h=>(by cases h),aO _ _ fun y _=>am.enc_fr y⟩,trivial⟩
def sY (x:List am):Prop:=x.length≤9223372036854775807∧∀ y∈x,am.wf y
def bB:List am→Nat
 | []=>0
 | x::xs=>am.cnt x+bB xs
def kS (x:List am):Nat:=x.length
def cf (x:List am):Prop:=x.length≤1048576∧∀ y∈x,am.sml y
def d4:List am→Int→List am
 | [],_=>[]
 | x::xs,k=>am.mark x k::d4 xs (k+(am.cnt x:Nat))
theorem jh:∀ (x:List am) (k:Int),(d4 x k).length=x.length
 | [],_=>rfl
 | _::xs,k=>by simp[d4,jh xs]
def cN:List am→Nat→Nat
 | [],_=>0
 | _::_,0=>0
 | x::xs,i+1=>am.cnt x+cN xs i
theorem jI:∀ (x:List am) (k:Int) (i:Nat) (y:am),x[i]? = some y→(d4 x k)[i]? = some (am.mark y (k+(cN x i:Nat)))
 | [],_,i,y,h=>by simp at h
 | x::xs,k,0,y,h=>by simp at h;subst h;simp[d4,cN]
 | x::xs,k,i+1,y,h=>by
  simp only[d4,List.getElem?_cons_succ]
  rw[jI xs _ i y (by simpa using h)]
  congr 2
  simp only[cN]
  omega
theorem jG (x:List am):cN x 0=0:=by cases x<;>rfl
theorem jx:∀ (x:List am) (i:Nat) (y:am),x[i]? = some y→cN x (i+1)=cN x i+am.cnt y
 | [],i,y,h=>by simp at h
 | x::xs,0,y,h=>by simp at h;subst h;simp[cN,jG]
 | x::xs,i+1,y,h=>by
  simp only[cN]
  rw[jx xs i y (by simpa using h)]
  omega
theorem jZ:∀ (x:List am),cN x x.length=bB x
 | []=>rfl
 | x::xs=>by simp only[List.length_cons,cN,bB,jZ xs]
theorem vS {x:List am} (h:kS x≤1048576):cf x:=⟨h,fun _ _=>trivial⟩
theorem oR:∀ (x:List am),bB x≤8*kS x
 | []=>by simp[bB]
 | x::xs=>by have:=oR xs;simp only[bB,kS,List.length_cons,am.cnt]at this ⊢;omega
theorem lJ:∀ (x:List am) (i:Nat),cN x i≤bB x
 | [],_=>by simp[cN]
 | x::xs,0=>by simp[cN]
 | x::xs,i+1=>by simp only[cN,bB];have:=lJ xs i;omega
structure ah where
 Page:Int
 Pages:Int
 Size:Int
deriving DecidableEq,Inhabited
def ah.enc (o:dy) (x:ah):List C:=[I x.Page,I x.Pages,I x.Size]
theorem ah.enc_fz (x:ah):dV (ah.enc .own x)=ah.enc .imm x:=by simp[dV,ah.enc]
theorem ah.enc_fr (x:ah):fK (ah.enc .own x):=⟨trivial,trivial,trivial,trivial⟩
def ah.wf (x:ah):Prop:=gz x.Page∧gz x.Pages∧gz x.Size
def ah.cnt (_:ah):Nat:=3
def ah.sml (_:ah):Prop:=True
def ah.sz (_:ah):Nat:=0
theorem ah.sml_of {x:ah} (_:ah.sz x≤1048576):ah.sml x:=trivial
def ah.mark (_:ah) (k:Int):ah:=⟨k,k+1,k+1+1⟩
def aW (o:dy) (x:List ah):List C:=[.s o (x.map (ah.enc o))]
theorem gc (x:List ah):dV (aW .own x)=aW .imm x:=by simp[dV,aW,ah.enc_fz,←cR,Function.comp_def]
theorem y1 (x:List ah):fK (aW .own x):=⟨⟨.inl fun h=>(by cases h),aO _ _ fun y _=>ah.enc_fr y⟩,trivial⟩
def qd (x:List ah):Prop:=x.length≤9223372036854775807∧∀ y∈x,ah.wf y
def bx:List ah→Nat
 | []=>0
 | x::xs=>ah.cnt x+bx xs
def jc (x:List ah):Nat:=x.length
def bO (x:List ah):Prop:=x.length≤1048576∧∀ y∈x,ah.sml y
def di:List ah→Int→List ah
 | [],_=>[]
 | x::xs,k=>ah.mark x k::di xs (k+(ah.cnt x:Nat))
theorem il:∀ (x:List ah) (k:Int),(di x k).length=x.length
 | [],_=>rfl
 | _::xs,k=>by simp[di,il xs]
def bU:List ah→Nat→Nat
 | [],_=>0
 | _::_,0=>0
 | x::xs,i+1=>ah.cnt x+bU xs i
theorem im:∀ (x:List ah) (k:Int) (i:Nat) (y:ah),x[i]? = some y→(di x k)[i]? = some (ah.mark y (k+(bU x i:Nat)))
 | [],_,i,y,h=>by simp at h
 | x::xs,k,0,y,h=>by simp at h;subst h;simp[di,bU]
 | x::xs,k,i+1,y,h=>by
  simp only[di,List.getElem?_cons_succ]
  rw[im xs _ i y (by simpa using h)]
  congr 2
  simp only[bU]
  omega
theorem hJ (x:List ah):bU x 0=0:=by cases x<;>rfl
theorem iy:∀ (x:List ah) (i:Nat) (y:ah),x[i]? = some y→bU x (i+1)=bU x i+ah.cnt y
 | [],i,y,h=>by simp at h
 | x::xs,0,y,h=>by simp at h;subst h;simp[bU,hJ]
 | x::xs,i+1,y,h=>by
  simp only[bU]
  rw[iy xs i y (by simpa using h)]
  omega
theorem js:∀ (x:List ah),bU x x.length=bx x
 | []=>rfl
 | x::xs=>by simp only[List.length_cons,bU,bx,js xs]
theorem tQ {x:List ah} (h:jc x≤1048576):bO x:=⟨h,fun _ _=>trivial⟩
theorem nN:∀ (x:List ah),bx x≤8*jc x
 | []=>by simp[bx]
 | x::xs=>by have:=nN xs;simp only[bx,jc,List.length_cons,ah.cnt]at this ⊢;omega
theorem kj:∀ (x:List ah) (i:Nat),bU x i≤bx x
 | [],_=>by simp[bU]
 | x::xs,0=>by simp[bU]
 | x::xs,i+1=>by simp only[bU,bx];have:=kj xs i;omega
structure aM where
 Id:Int
 Addr:Int
 Size:Int
 Thread:Int
deriving DecidableEq,Inhabited
def aM.enc (o:dy) (x:aM):List C:=[I x.Id,I x.Addr,I x.Size,I x.Thread]
theorem aM.enc_fz (x:aM):dV (aM.enc .own x)=aM.enc .imm x:=by simp[dV,aM.enc]
theorem aM.enc_fr (x:aM):fK (aM.enc .own x):=⟨trivial,trivial,trivial,trivial,trivial⟩
def aM.wf (x:aM):Prop:=gz x.Id∧gz x.Addr∧gz x.Size∧gz x.Thread
def aM.cnt (_:aM):Nat:=4
def aM.sml (_:aM):Prop:=True
def aM.sz (_:aM):Nat:=0
theorem aM.sml_of {x:aM} (_:aM.sz x≤1048576):aM.sml x:=trivial
def aM.mark (_:aM) (k:Int):aM:=⟨k,k+1,k+1+1,k+1+1+1⟩
def dA (o:dy) (x:List aM):List C:=[.s o (x.map (aM.enc o))]
theorem EA (x:List aM):dV (dA .own x)=dA .imm x:=by simp[dV,dA,aM.enc_fz,←cR,Function.comp_def]
theorem E1 (x:List aM):fK (dA .own x):=⟨⟨.inl fun h=>(by cases h),aO _ _ fun y _=>aM.enc_fr y⟩,trivial⟩
def wy (x:List aM):Prop:=x.length≤9223372036854775807∧∀ y∈x,aM.wf y
def cB:List aM→Nat
 | []=>0
 | x::xs=>aM.cnt x+cB xs
def nb (x:List aM):Nat:=x.length
def kM (x:List aM):Prop:=x.length≤1048576∧∀ y∈x,aM.sml y
def dL:List aM→Int→List aM
 | [],_=>[]
 | x::xs,k=>aM.mark x k::dL xs (k+(aM.cnt x:Nat))
theorem kh:∀ (x:List aM) (k:Int),(dL x k).length=x.length
 | [],_=>rfl
 | _::xs,k=>by simp[dL,kh xs]
def dx:List aM→Nat→Nat
 | [],_=>0
 | _::_,0=>0
 | x::xs,i+1=>aM.cnt x+dx xs i
theorem kf:∀ (x:List aM) (k:Int) (i:Nat) (y:aM),x[i]? = some y→(dL x k)[i]? = some (aM.mark y (k+(dx x i:Nat)))
 | [],_,i,y,h=>by simp at h
 | x::xs,k,0,y,h=>by simp at h;subst h;simp[dL,dx]
 | x::xs,k,i+1,y,h=>by
  simp only[dL,List.getElem?_cons_succ]
  rw[kf xs _ i y (by simpa using h)]
  congr 2
  simp only[dx]
  omega
theorem ku (x:List aM):dx x 0=0:=by cases x<;>rfl
theorem jY:∀ (x:List aM) (i:Nat) (y:aM),x[i]? = some y→dx x (i+1)=dx x i+aM.cnt y
 | [],i,y,h=>by simp at h
 | x::xs,0,y,h=>by simp at h;subst h;simp[dx,ku]
 | x::xs,i+1,y,h=>by
  simp only[dx]
  rw[jY xs i y (by simpa using h)]
  omega
theorem lB:∀ (x:List aM),dx x x.length=cB x
 | []=>rfl
 | x::xs=>by simp only[List.length_cons,dx,cB,lB xs]
theorem zc {x:List aM} (h:nb x≤1048576):kM x:=⟨h,fun _ _=>trivial⟩
theorem qH:∀ (x:List aM),cB x≤8*nb x
 | []=>by simp[cB]
 | x::xs=>by have:=qH xs;simp only[cB,nb,List.length_cons,aM.cnt]at this ⊢;omega
theorem mP:∀ (x:List aM) (i:Nat),dx x i≤cB x
 | [],_=>by simp[dx]
 | x::xs,0=>by simp[dx]
 | x::xs,i+1=>by simp only[dx,cB];have:=mP xs i;omega
structure ar where
 Lists:List (List Int)
deriving DecidableEq,Inhabited
def ar.enc (o:dy) (x:ar):List C:=[.s o (x.Lists.map (aI o))]
theorem ar.enc_fz (x:ar):dV (ar.enc .own x)=ar.enc .imm x:=by simp[dV,ar.enc,eC,←cR,Function.comp_def]
theorem ar.enc_fr (x:ar):fK (ar.enc .own x):=⟨⟨.inl fun h=>(by cases h),aO _ _ fun y _=>bZ y⟩,trivial⟩
def ar.wf (x:ar):Prop:=pt x.Lists
def ar.cnt (x:ar):Nat:=cW x.Lists
def ar.sz (x:ar):Nat:=szIntSS x.Lists
def ar.sml (x:ar):Prop:=gQ x.Lists
theorem ar.sml_of {x:ar} (h:ar.sz x≤1048576):ar.sml x:=mc (by unfold ar.sz at h;omega)
theorem ar.cnt_le (x:ar):ar.cnt x≤8*ar.sz x:=by unfold ar.cnt ar.sz;have:=mM x.Lists;omega
def ar.mark (x:ar) (k:Int):ar:={x with Lists:=markIntSS x.Lists (k)}
def cP (o:dy) (x:List ar):List C:=[.s o (x.map (ar.enc o))]
theorem zE (x:List ar):fK (cP .own x):=⟨⟨.inl fun h=>(by cases h),aO _ _ fun y _=>ar.enc_fr y⟩,trivial⟩
def qt (x:List ar):Prop:=x.length≤9223372036854775807∧∀ y∈x,ar.wf y
def bK:List ar→Nat
 | []=>0
 | x::xs=>ar.cnt x+bK xs
def dP:List ar→Nat
 | []=>0
 | x::xs=>ar.sz x+dP xs
def eE (x:List ar):Nat:=x.length+dP x
def gF (x:List ar):Prop:=x.length≤1048576∧∀ y∈x,ar.sml y
def db:List ar→Int→List ar
 | [],_=>[]
 | x::xs,k=>ar.mark x k::db xs (k+(ar.cnt x:Nat))
theorem hM:∀ (x:List ar) (k:Int),(db x k).length=x.length
 | [],_=>rfl
 | _::xs,k=>by simp[db,hM xs]
def ca:List ar→Nat→Nat
 | [],_=>0
 | _::_,0=>0
 | x::xs,i+1=>ar.cnt x+ca xs i
theorem ib:∀ (x:List ar) (k:Int) (i:Nat) (y:ar),x[i]? = some y→(db x k)[i]? = some (ar.mark y (k+(ca x i:Nat)))
 | [],_,i,y,h=>by simp at h
 | x::xs,k,0,y,h=>by simp at h;subst h;simp[db,ca]
 | x::xs,k,i+1,y,h=>by
  simp only[db,List.getElem?_cons_succ]
  rw[ib xs _ i y (by simpa using h)]
  congr 2
  simp only[ca]
  omega
theorem iq (x:List ar):ca x 0=0:=by cases x<;>rfl
theorem ig:∀ (x:List ar) (i:Nat) (y:ar),x[i]? = some y→ca x (i+1)=ca x i+ar.cnt y
 | [],i,y,h=>by simp at h
 | x::xs,0,y,h=>by simp at h;subst h;simp[ca,iq]
 | x::xs,i+1,y,h=>by
  simp only[ca]
  rw[ig xs i y (by simpa using h)]
  omega
theorem jA:∀ (x:List ar),ca x x.length=bK x
 | []=>rfl
 | x::xs=>by simp only[List.length_cons,ca,bK,jA xs]
theorem my:∀ {x:List ar} {y:ar},y∈x→ar.sz y≤dP x
 | [],y,h=>by simp at h
 | x::xs,y,h=>by
  simp only[dP]
  rcases List.mem_cons.1 h with rfl|h
  ·omega
  ·have:=my h;omega
theorem uz {x:List ar} (h:eE x≤1048576):gF x:=⟨by unfold eE at h;omega,fun y hy=>ar.sml_of (by have:=my hy;unfold eE at h;omega)⟩
theorem mE:∀ (x:List ar),bK x≤8*dP x
 | []=>by simp[bK]
 | x::xs=>by have:=mE xs;have:=ar.cnt_le x;simp only[bK,dP];omega
theorem uE (x:List ar):bK x≤8*eE x:=by have:=mE x;unfold eE;omega
def cx:List ar→Nat→Nat
 | [],_=>0
 | _::_,0=>0
 | x::xs,i+1=>ar.sz x+cx xs i
theorem gA (x:List ar):cx x 0=0:=by cases x<;>rfl
theorem kK:∀ (x:List ar) (i:Nat) (y:ar),x[i]? = some y→cx x (i+1)=cx x i+ar.sz y
 | [],i,y,h=>by simp at h
 | x::xs,0,y,h=>by simp at h;subst h;simp[cx,gA]
 | x::xs,i+1,y,h=>by
  simp only[cx]
  rw[kK xs i y (by simpa using h)]
  omega
theorem lV:∀ (x:List ar),cx x x.length=dP x
 | []=>rfl
 | x::xs=>by simp only[List.length_cons,cx,dP,lV xs]
theorem j5:∀ (x:List ar) (i:Nat),cx x i≤dP x
 | [],_=>by simp[cx]
 | x::xs,0=>by simp[cx]
 | x::xs,i+1=>by simp only[cx,dP];have:=j5 xs i;omega
theorem kq:∀ (x:List ar) (i:Nat),ca x i≤bK x
 | [],_=>by simp[ca]
 | x::xs,0=>by simp[ca]
 | x::xs,i+1=>by simp only[ca,bK];have:=kq xs i;omega
structure aJ where
 To:Int
 Addr:Int
deriving DecidableEq,Inhabited
def aJ.enc (o:dy) (x:aJ):List C:=[I x.To,I x.Addr]
theorem aJ.enc_fz (x:aJ):dV (aJ.enc .own x)=aJ.enc .imm x:=by simp[dV,aJ.enc]
theorem aJ.enc_fr (x:aJ):fK (aJ.enc .own x):=⟨trivial,trivial,trivial⟩
def aJ.wf (x:aJ):Prop:=gz x.To∧gz x.Addr
def aJ.cnt (_:aJ):Nat:=2
def aJ.sml (_:aJ):Prop:=True
def aJ.sz (_:aJ):Nat:=0
theorem aJ.sml_of {x:aJ} (_:aJ.sz x≤1048576):aJ.sml x:=trivial
def aJ.mark (_:aJ) (k:Int):aJ:=⟨k,k+1⟩
def br (o:dy) (x:List aJ):List C:=[.s o (x.map (aJ.enc o))]
theorem o6 (x:List aJ):dV (br .own x)=br .imm x:=by simp[dV,br,aJ.enc_fz,←cR,Function.comp_def]
theorem jl (x:List aJ):fK (br .own x):=⟨⟨.inl fun h=>(by cases h),aO _ _ fun y _=>aJ.enc_fr y⟩,trivial⟩
def sx (x:List aJ):Prop:=x.length≤9223372036854775807∧∀ y∈x,aJ.wf y
def cZ:List aJ→Nat
 | []=>0
 | x::xs=>aJ.cnt x+cZ xs
def gm (x:List aJ):Nat:=x.length
def jf (x:List aJ):Prop:=x.length≤1048576∧∀ y∈x,aJ.sml y
def dq:List aJ→Int→List aJ
 | [],_=>[]
 | x::xs,k=>aJ.mark x k::dq xs (k+(aJ.cnt x:Nat))
theorem ju:∀ (x:List aJ) (k:Int),(dq x k).length=x.length
 | [],_=>rfl
 | _::xs,k=>by simp[dq,ju xs]
def cO:List aJ→Nat→Nat
 | [],_=>0
 | _::_,0=>0
 | x::xs,i+1=>aJ.cnt x+cO xs i
theorem jr:∀ (x:List aJ) (k:Int) (i:Nat) (y:aJ),x[i]? = some y→(dq x k)[i]? = some (aJ.mark y (k+(cO x i:Nat)))
 | [],_,i,y,h=>by simp at h
 | x::xs,k,0,y,h=>by simp at h;subst h;simp[dq,cO]
 | x::xs,k,i+1,y,h=>by
  simp only[dq,List.getElem?_cons_succ]
  rw[jr xs _ i y (by simpa using h)]
  congr 2
  simp only[cO]
  omega
theorem jm (x:List aJ):cO x 0=0:=by cases x<;>rfl
theorem jt:∀ (x:List aJ) (i:Nat) (y:aJ),x[i]? = some y→cO x (i+1)=cO x i+aJ.cnt y
 | [],i,y,h=>by simp at h
 | x::xs,0,y,h=>by simp at h;subst h;simp[cO,jm]
 | x::xs,i+1,y,h=>by
  simp only[cO]
  rw[jt xs i y (by simpa using h)]
  omega
theorem ky:∀ (x:List aJ),cO x x.length=cZ x
 | []=>rfl
 | x::xs=>by simp only[List.length_cons,cO,cZ,ky xs]
theorem wu {x:List aJ} (h:gm x≤1048576):jf x:=⟨h,fun _ _=>trivial⟩
theorem oP:∀ (x:List aJ),cZ x≤8*gm x
 | []=>by simp[cZ]
 | x::xs=>by have:=oP xs;simp only[cZ,gm,List.length_cons,aJ.cnt]at this ⊢;omega
theorem lG:∀ (x:List aJ) (i:Nat),cO x i≤cZ x
 | [],_=>by simp[cO]
 | x::xs,0=>by simp[cO]
 | x::xs,i+1=>by simp only[cO,cZ];have:=lG xs i;omega
def dm (o:dy) (x:List (List aJ)):List C:=[.s o (x.map (br o))]
theorem yH (x:List (List aJ)):fK (dm .own x):=⟨⟨.inl fun h=>(by cases h),aO _ _ fun y _=>jl y⟩,trivial⟩
def qi (x:List (List aJ)):Prop:=x.length≤9223372036854775807∧∀ y∈x,sx y
def cH:List (List aJ)→Nat
 | []=>0
 | x::xs=>cZ x+cH xs
def dQ:List (List aJ)→Nat
 | []=>0
 | x::xs=>gm x+dQ xs
def eD (x:List (List aJ)):Nat:=x.length+dQ x
def g0 (x:List (List aJ)):Prop:=x.length≤1048576∧∀ y∈x,jf y
def dd:List (List aJ)→Int→List (List aJ)
 | [],_=>[]
 | x::xs,k=>dq x k::dd xs (k+(cZ x:Nat))
theorem i7:∀ (x:List (List aJ)) (k:Int),(dd x k).length=x.length
 | [],_=>rfl
 | _::xs,k=>by simp[dd,i7 xs]
def bY:List (List aJ)→Nat→Nat
 | [],_=>0
 | _::_,0=>0
 | x::xs,i+1=>cZ x+bY xs i
theorem ik:∀ (x:List (List aJ)) (k:Int) (i:Nat) (y:List aJ),x[i]? = some y→(dd x k)[i]? = some (dq y (k+(bY x i:Nat)))
 | [],_,i,y,h=>by simp at h
 | x::xs,k,0,y,h=>by simp at h;subst h;simp[dd,bY]
 | x::xs,k,i+1,y,h=>by
  simp only[dd,List.getElem?_cons_succ]
  rw[ik xs _ i y (by simpa using h)]
  congr 2
  simp only[bY]
  omega
theorem hP (x:List (List aJ)):bY x 0=0:=by cases x<;>rfl
theorem ip:∀ (x:List (List aJ)) (i:Nat) (y:List aJ),x[i]? = some y→bY x (i+1)=bY x i+cZ y
 | [],i,y,h=>by simp at h
 | x::xs,0,y,h=>by simp at h;subst h;simp[bY,hP]
 | x::xs,i+1,y,h=>by
  simp only[bY]
  rw[ip xs i y (by simpa using h)]
  omega
theorem jv:∀ (x:List (List aJ)),bY x x.length=cH x
 | []=>rfl
 | x::xs=>by simp only[List.length_cons,bY,cH,jv xs]
theorem m3:∀ {x:List (List aJ)} {y:List aJ},y∈x→gm y≤dQ x
 | [],y,h=>by simp at h
 | x::xs,y,h=>by
  simp only[dQ]
  rcases List.mem_cons.1 h with rfl|h
  ·omega
  ·have:=m3 h;omega
theorem uK {x:List (List aJ)} (h:eD x≤1048576):g0 x:=⟨by unfold eD at h;omega,fun y hy=>wu (by have:=m3 hy;unfold eD at h;omega)⟩
theorem m6:∀ (x:List (List aJ)),cH x≤8*dQ x
 | []=>by simp[cH]
 | x::xs=>by have:=m6 xs;have:=oP x;simp only[cH,dQ];omega
theorem uD (x:List (List aJ)):cH x≤8*eD x:=by have:=m6 x;unfold eD;omega
def cv:List (List aJ)→Nat→Nat
 | [],_=>0
 | _::_,0=>0
 | x::xs,i+1=>gm x+cv xs i
theorem g9 (x:List (List aJ)):cv x 0=0:=by cases x<;>rfl
theorem kE:∀ (x:List (List aJ)) (i:Nat) (y:List aJ),x[i]? = some y→cv x (i+1)=cv x i+gm y
 | [],i,y,h=>by simp at h
 | x::xs,0,y,h=>by simp at h;subst h;simp[cv,g9]
 | x::xs,i+1,y,h=>by
  simp only[cv]
  rw[kE xs i y (by simpa using h)]
  omega
theorem lP:∀ (x:List (List aJ)),cv x x.length=dQ x
 | []=>rfl
 | x::xs=>by simp only[List.length_cons,cv,dQ,lP xs]
theorem jo:∀ (x:List (List aJ)) (i:Nat),cv x i≤dQ x
 | [],_=>by simp[cv]
 | x::xs,0=>by simp[cv]
 | x::xs,i+1=>by simp only[cv,dQ];have:=jo xs i;omega
theorem k4:∀ (x:List (List aJ)) (i:Nat),bY x i≤cH x
 | [],_=>by simp[bY]
 | x::xs,0=>by simp[bY]
 | x::xs,i+1=>by simp only[bY,cH];have:=k4 xs i;omega
structure aG where
 Buffers:List (List aJ)
 Inbox:List (List Int)
deriving DecidableEq,Inhabited
def aG.enc (o:dy) (x:aG):List C:=[.s o (x.Buffers.map (br o)),.s o (x.Inbox.map (aI o))]
theorem aG.enc_fz (x:aG):dV (aG.enc .own x)=aG.enc .imm x:=by simp[dV,aG.enc,o6,eC,←cR,Function.comp_def]
theorem aG.enc_fr (x:aG):fK (aG.enc .own x):=⟨⟨.inl fun h=>(by cases h),aO _ _ fun y _=>jl y⟩,⟨.inl fun h=>(by cases h),aO _ _ fun y _=>bZ y⟩,trivial⟩
def aG.wf (x:aG):Prop:=qi x.Buffers∧pt x.Inbox
def aG.cnt (x:aG):Nat:=cH x.Buffers+cW x.Inbox
def aG.sz (x:aG):Nat:=eD x.Buffers+szIntSS x.Inbox
def aG.sml (x:aG):Prop:=g0 x.Buffers∧gQ x.Inbox
theorem aG.sml_of {x:aG} (h:aG.sz x≤1048576):aG.sml x:=⟨uK (by unfold aG.sz at h;omega),mc (by unfold aG.sz at h;omega)⟩
theorem aG.cnt_le (x:aG):aG.cnt x≤8*aG.sz x:=by unfold aG.cnt aG.sz;have:=uD x.Buffers;have:=mM x.Inbox;omega
def aG.mark (x:aG) (k:Int):aG:={x with Buffers:=dd x.Buffers (k),Inbox:=markIntSS x.Inbox (k+(cH x.Buffers:Nat))}
structure ax where
 Addr:Int
 Class:Int
 Since:Int
deriving DecidableEq,Inhabited
def ax.enc (o:dy) (x:ax):List C:=[I x.Addr,I x.Class,I x.Since]
theorem ax.enc_fz (x:ax):dV (ax.enc .own x)=ax.enc .imm x:=by simp[dV,ax.enc]
theorem ax.enc_fr (x:ax):fK (ax.enc .own x):=⟨trivial,trivial,trivial,trivial⟩
def ax.wf (x:ax):Prop:=gz x.Addr∧gz x.Class∧gz x.Since
def ax.cnt (_:ax):Nat:=3
def ax.sml (_:ax):Prop:=True
def ax.sz (_:ax):Nat:=0
theorem ax.sml_of {x:ax} (_:ax.sz x≤1048576):ax.sml x:=trivial
def ax.mark (_:ax) (k:Int):ax:=⟨k,k+1,k+1+1⟩
def bh (o:dy) (x:List ax):List C:=[.s o (x.map (ax.enc o))]
theorem zT (x:List ax):dV (bh .own x)=bh .imm x:=by simp[dV,bh,ax.enc_fz,←cR,Function.comp_def]
theorem me (x:List ax):fK (bh .own x):=⟨⟨.inl fun h=>(by cases h),aO _ _ fun y _=>ax.enc_fr y⟩,trivial⟩
def qw (x:List ax):Prop:=x.length≤9223372036854775807∧∀ y∈x,ax.wf y
def cG:List ax→Nat
 | []=>0
 | x::xs=>ax.cnt x+cG xs
def iY (x:List ax):Nat:=x.length
def dN (x:List ax):Prop:=x.length≤1048576∧∀ y∈x,ax.sml y
def de:List ax→Int→List ax
 | [],_=>[]
 | x::xs,k=>ax.mark x k::de xs (k+(ax.cnt x:Nat))
theorem ix:∀ (x:List ax) (k:Int),(de x k).length=x.length
 | [],_=>rfl
 | _::xs,k=>by simp[de,ix xs]
def bV:List ax→Nat→Nat
 | [],_=>0
 | _::_,0=>0
 | x::xs,i+1=>ax.cnt x+bV xs i
theorem ic:∀ (x:List ax) (k:Int) (i:Nat) (y:ax),x[i]? = some y→(de x k)[i]? = some (ax.mark y (k+(bV x i:Nat)))
 | [],_,i,y,h=>by simp at h
 | x::xs,k,0,y,h=>by simp at h;subst h;simp[de,bV]
 | x::xs,k,i+1,y,h=>by
  simp only[de,List.getElem?_cons_succ]
  rw[ic xs _ i y (by simpa using h)]
  congr 2
  simp only[bV]
  omega
theorem i6 (x:List ax):bV x 0=0:=by cases x<;>rfl
theorem iv:∀ (x:List ax) (i:Nat) (y:ax),x[i]? = some y→bV x (i+1)=bV x i+ax.cnt y
 | [],i,y,h=>by simp at h
 | x::xs,0,y,h=>by simp at h;subst h;simp[bV,i6]
 | x::xs,i+1,y,h=>by
  simp only[bV]
  rw[iv xs i y (by simpa using h)]
  omega
theorem j8:∀ (x:List ax),bV x x.length=cG x
 | []=>rfl
 | x::xs=>by simp only[List.length_cons,bV,cG,j8 xs]
theorem uN {x:List ax} (h:iY x≤1048576):dN x:=⟨h,fun _ _=>trivial⟩
theorem nA:∀ (x:List ax),cG x≤8*iY x
 | []=>by simp[cG]
 | x::xs=>by have:=nA xs;simp only[cG,iY,List.length_cons,ax.cnt]at this ⊢;omega
theorem kc:∀ (x:List ax) (i:Nat),bV x i≤cG x
 | [],_=>by simp[bV]
 | x::xs,0=>by simp[bV]
 | x::xs,i+1=>by simp only[bV,cG];have:=kc xs i;omega
structure aK where
 Room:Int
 Lst:List ax
deriving DecidableEq,Inhabited
def aK.enc (o:dy) (x:aK):List C:=[I x.Room,.s o (x.Lst.map (ax.enc o))]
theorem aK.enc_fz (x:aK):dV (aK.enc .own x)=aK.enc .imm x:=by simp[dV,aK.enc,ax.enc_fz,←cR,Function.comp_def]
theorem aK.enc_fr (x:aK):fK (aK.enc .own x):=⟨trivial,⟨.inl fun h=>(by cases h),aO _ _ fun y _=>ax.enc_fr y⟩,trivial⟩
def aK.wf (x:aK):Prop:=gz x.Room∧qw x.Lst
def aK.cnt (x:aK):Nat:=cG x.Lst
def aK.sz (x:aK):Nat:=iY x.Lst
def aK.sml (x:aK):Prop:=dN x.Lst
theorem aK.sml_of {x:aK} (h:aK.sz x≤1048576):aK.sml x:=uN (by unfold aK.sz at h;omega)
theorem aK.cnt_le (x:aK):aK.cnt x≤8*aK.sz x:=by unfold aK.cnt aK.sz;have:=nA x.Lst;omega
def aK.mark (x:aK) (k:Int):aK:={x with Lst:=de x.Lst (k)}
structure aV where
 Keep:Int
 Move:Int
 Cells:List Int
deriving DecidableEq,Inhabited
def aV.enc (o:dy) (x:aV):List C:=[I x.Keep,I x.Move,.s o (x.Cells.map (rI o))]
theorem aV.enc_fz (x:aV):dV (aV.enc .own x)=aV.enc .imm x:=by simp[dV,aV.enc,rI,←cR,Function.comp_def]
theorem aV.enc_fr (x:aV):fK (aV.enc .own x):=⟨trivial,trivial,⟨.inl fun h=>(by cases h),aO _ _ fun y _=>pp y⟩,trivial⟩
def aV.wf (x:aV):Prop:=gz x.Keep∧gz x.Move∧pN x.Cells
def aV.cnt (x:aV):Nat:=d9 x.Cells
def aV.sz (x:aV):Nat:=szIntS x.Cells
def aV.sml (x:aV):Prop:=iT x.Cells
theorem aV.sml_of {x:aV} (h:aV.sz x≤1048576):aV.sml x:=lC (by unfold aV.sz at h;omega)
theorem aV.cnt_le (x:aV):aV.cnt x≤8*aV.sz x:=by unfold aV.cnt aV.sz;have:=kX x.Cells;omega
def aV.mark (x:aV) (k:Int):aV:={x with Cells:=markIntS x.Cells (k)}
structure bq where
 Plan:aV
 Phase:Int
 Next:Int
deriving DecidableEq,Inhabited
def bq.enc (o:dy) (x:bq):List C:=[I x.Plan.Keep,I x.Plan.Move,.s o (x.Plan.Cells.map (rI o)),I x.Phase,I x.Next]
theorem bq.enc_fz (x:bq):dV (bq.enc .own x)=bq.enc .imm x:=by simp[dV,bq.enc,rI,←cR,Function.comp_def]
theorem bq.enc_fr (x:bq):fK (bq.enc .own x):=⟨trivial,trivial,⟨.inl fun h=>(by cases h),aO _ _ fun y _=>pp y⟩,trivial,trivial,trivial⟩
def bq.wf (x:bq):Prop:=aV.wf x.Plan∧gz x.Phase∧gz x.Next
def bq.cnt (x:bq):Nat:=aV.cnt x.Plan
def bq.sz (x:bq):Nat:=aV.sz x.Plan
def bq.sml (x:bq):Prop:=aV.sml x.Plan
theorem bq.sml_of {x:bq} (h:bq.sz x≤1048576):bq.sml x:=aV.sml_of (by unfold bq.sz at h;omega)
theorem bq.cnt_le (x:bq):bq.cnt x≤8*bq.sz x:=by unfold bq.cnt bq.sz;have:=aV.cnt_le x.Plan;omega
def bq.mark (x:bq) (k:Int):bq:={x with Plan:=aV.mark x.Plan (k)}
structure ac where
 Kernel:ao
 Free:List al
 Spans:List am
 Larges:List ah
 Objs:List aM
 Caches:List ar
 Mail:aG
 Quar:aK
 Seed:Int
 Clock:Int
 Limit:Int
 Next:Int
 Meshing:Bool
 Job:bq
deriving DecidableEq,Inhabited
def ac.enc (o:dy) (x:ac):List C:=[.s o (x.Kernel.Machine.Frames.Cells.map (aI o)),.s o (x.Kernel.Machine.Frames.Used.map (rB o)),.s o (x.Kernel.Machine.Table.Entries.map (aE.enc o)),I x.Kernel.Calls,.s o (x.Kernel.Refuse.map (rI o)),.s o (x.Free.map (al.enc o)),.s o (x.Spans.map (am.enc o)),.s o (x.Larges.map (ah.enc o)),.s o (x.Objs.map (aM.enc o)),.s o (x.Caches.map (ar.enc o)),.s o (x.Mail.Buffers.map (br o)),.s o (x.Mail.Inbox.map (aI o)),I x.Quar.Room,.s o (x.Quar.Lst.map (ax.enc o)),I x.Seed,I x.Clock,I x.Limit,I x.Next,B x.Meshing,I x.Job.Plan.Keep,I x.Job.Plan.Move,.s o (x.Job.Plan.Cells.map (rI o)),I x.Job.Phase,I x.Job.Next]
theorem ac.enc_fz (x:ac):dV (ac.enc .own x)=ac.enc .imm x:=by simp[dV,ac.enc,ar.enc_fz,aE.enc_fz,ah.enc_fz,aM.enc_fz,al.enc_fz,am.enc_fz,ax.enc_fz,rB,o6,rI,eC,←cR,Function.comp_def]
theorem ac.enc_fr (x:ac):fK (ac.enc .own x):=⟨⟨.inl fun h=>(by cases h),aO _ _ fun y _=>bZ y⟩,⟨.inl fun h=>(by cases h),aO _ _ fun y _=>v8 y⟩,⟨.inl fun h=>(by cases h),aO _ _ fun y _=>aE.enc_fr y⟩,trivial,⟨.inl fun h=>(by cases h),aO _ _ fun y _=>pp y⟩,⟨.inl fun h=>(by cases h),aO _ _ fun y _=>al.enc_fr y⟩,⟨.inl fun h=>(by cases h),aO _ _ fun y _=>am.enc_fr y⟩,⟨.inl fun h=>(by cases h),aO _ _ fun y _=>ah.enc_fr y⟩,⟨.inl fun h=>(by cases h),aO _ _ fun y _=>aM.enc_fr y⟩,⟨.inl fun h=>(by cases h),aO _ _ fun y _=>ar.enc_fr y⟩,⟨.inl fun h=>(by cases h),aO _ _ fun y _=>jl y⟩,⟨.inl fun h=>(by cases h),aO _ _ fun y _=>bZ y⟩,trivial,⟨.inl fun h=>(by cases h),aO _ _ fun y _=>ax.enc_fr y⟩,trivial,trivial,trivial,trivial,trivial,trivial,trivial,⟨.inl fun h=>(by cases h),aO _ _ fun y _=>pp y⟩,trivial,trivial,trivial⟩
def ac.wf (x:ac):Prop:=ao.wf x.Kernel∧qq x.Free∧sY x.Spans∧qd x.Larges∧wy x.Objs∧qt x.Caches∧aG.wf x.Mail∧aK.wf x.Quar∧gz x.Seed∧gz x.Clock∧gz x.Limit∧gz x.Next∧Jx x.Meshing∧bq.wf x.Job
def ac.cnt (x:ac):Nat:=ao.cnt x.Kernel+bz x.Free+bB x.Spans+bx x.Larges+cB x.Objs+bK x.Caches+aG.cnt x.Mail+aK.cnt x.Quar+bq.cnt x.Job
def ac.sz (x:ac):Nat:=ao.sz x.Kernel+je x.Free+kS x.Spans+jc x.Larges+nb x.Objs+eE x.Caches+aG.sz x.Mail+aK.sz x.Quar+bq.sz x.Job
def ac.sml (x:ac):Prop:=ao.sml x.Kernel∧dr x.Free∧cf x.Spans∧bO x.Larges∧kM x.Objs∧gF x.Caches∧aG.sml x.Mail∧aK.sml x.Quar∧bq.sml x.Job
theorem ac.sml_of {x:ac} (h:ac.sz x≤1048576):ac.sml x:=⟨ao.sml_of (by unfold ac.sz at h;omega),uh (by unfold ac.sz at h;omega),vS (by unfold ac.sz at h;omega),tQ (by unfold ac.sz at h;omega),zc (by unfold ac.sz at h;omega),uz (by unfold ac.sz at h;omega),aG.sml_of (by unfold ac.sz at h;omega),aK.sml_of (by unfold ac.sz at h;omega),bq.sml_of (by unfold ac.sz at h;omega)⟩
theorem ac.cnt_le (x:ac):ac.cnt x≤8*ac.sz x:=by unfold ac.cnt ac.sz;have:=ao.cnt_le x.Kernel;have:=n6 x.Free;have:=oR x.Spans;have:=nN x.Larges;have:=qH x.Objs;have:=uE x.Caches;have:=aG.cnt_le x.Mail;have:=aK.cnt_le x.Quar;have:=bq.cnt_le x.Job;omega
def ac.mark (x:ac) (k:Int):ac:={x with Kernel:=ao.mark x.Kernel (k),Free:=dh x.Free (k+(ao.cnt x.Kernel:Nat)),Spans:=d4 x.Spans (k+(ao.cnt x.Kernel:Nat)+(bz x.Free:Nat)),Larges:=di x.Larges (k+(ao.cnt x.Kernel:Nat)+(bz x.Free:Nat)+(bB x.Spans:Nat)),Objs:=dL x.Objs (k+(ao.cnt x.Kernel:Nat)+(bz x.Free:Nat)+(bB x.Spans:Nat)+(bx x.Larges:Nat)),Caches:=db x.Caches (k+(ao.cnt x.Kernel:Nat)+(bz x.Free:Nat)+(bB x.Spans:Nat)+(bx x.Larges:Nat)+(cB x.Objs:Nat)),Mail:=aG.mark x.Mail (k+(ao.cnt x.Kernel:Nat)+(bz x.Free:Nat)+(bB x.Spans:Nat)+(bx x.Larges:Nat)+(cB x.Objs:Nat)+(bK x.Caches:Nat)),Quar:=aK.mark x.Quar (k+(ao.cnt x.Kernel:Nat)+(bz x.Free:Nat)+(bB x.Spans:Nat)+(bx x.Larges:Nat)+(cB x.Objs:Nat)+(bK x.Caches:Nat)+(aG.cnt x.Mail:Nat)),Job:=bq.mark x.Job (k+(ao.cnt x.Kernel:Nat)+(bz x.Free:Nat)+(bB x.Spans:Nat)+(bx x.Larges:Nat)+(cB x.Objs:Nat)+(bK x.Caches:Nat)+(aG.cnt x.Mail:Nat)+(aK.cnt x.Quar:Nat))}
structure ct where
 Kind:Int
 Index:Int
 Slot:Int
 Offset:Int
deriving DecidableEq,Inhabited
def ct.enc (o:dy) (x:ct):List C:=[I x.Kind,I x.Index,I x.Slot,I x.Offset]
theorem ct.enc_fz (x:ct):dV (ct.enc .own x)=ct.enc .imm x:=by simp[dV,ct.enc]
theorem ct.enc_fr (x:ct):fK (ct.enc .own x):=⟨trivial,trivial,trivial,trivial,trivial⟩
def ct.wf (x:ct):Prop:=gz x.Kind∧gz x.Index∧gz x.Slot∧gz x.Offset
def ct.cnt (_:ct):Nat:=4
def ct.sml (_:ct):Prop:=True
def ct.sz (_:ct):Nat:=0
theorem ct.sml_of {x:ct} (_:ct.sz x≤1048576):ct.sml x:=trivial
def ct.mark (_:ct) (k:Int):ct:=⟨k,k+1,k+1+1,k+1+1+1⟩
structure ep where
 Id:Int
 Size:Int
 Sum:Int
deriving DecidableEq,Inhabited
def ep.enc (o:dy) (x:ep):List C:=[I x.Id,I x.Size,I x.Sum]
theorem ep.enc_fz (x:ep):dV (ep.enc .own x)=ep.enc .imm x:=by simp[dV,ep.enc]
theorem ep.enc_fr (x:ep):fK (ep.enc .own x):=⟨trivial,trivial,trivial,trivial⟩
def ep.wf (x:ep):Prop:=gz x.Id∧gz x.Size∧gz x.Sum
def ep.cnt (_:ep):Nat:=3
def ep.sml (_:ep):Prop:=True
def ep.sz (_:ep):Nat:=0
theorem ep.sml_of {x:ep} (_:ep.sz x≤1048576):ep.sml x:=trivial
def ep.mark (_:ep) (k:Int):ep:=⟨k,k+1,k+1+1⟩
structure aN where
 Id:Int
 Cells:List Int
deriving DecidableEq,Inhabited
def aN.enc (o:dy) (x:aN):List C:=[I x.Id,.s o (x.Cells.map (rI o))]
theorem aN.enc_fz (x:aN):dV (aN.enc .own x)=aN.enc .imm x:=by simp[dV,aN.enc,rI,←cR,Function.comp_def]
theorem aN.enc_fr (x:aN):fK (aN.enc .own x):=⟨trivial,⟨.inl fun h=>(by cases h),aO _ _ fun y _=>pp y⟩,trivial⟩
def aN.wf (x:aN):Prop:=gz x.Id∧pN x.Cells
def aN.cnt (x:aN):Nat:=d9 x.Cells
def aN.sz (x:aN):Nat:=szIntS x.Cells
def aN.sml (x:aN):Prop:=iT x.Cells
theorem aN.sml_of {x:aN} (h:aN.sz x≤1048576):aN.sml x:=lC (by unfold aN.sz at h;omega)
theorem aN.cnt_le (x:aN):aN.cnt x≤8*aN.sz x:=by unfold aN.cnt aN.sz;have:=kX x.Cells;omega
def aN.mark (x:aN) (k:Int):aN:={x with Cells:=markIntS x.Cells (k)}
def BD (x:List aN):Prop:=x.length≤9223372036854775807∧∀ y∈x,aN.wf y
def fU:List aN→Nat
 | []=>0
 | x::xs=>aN.cnt x+fU xs
def fZ:List aN→Nat
 | []=>0
 | x::xs=>aN.sz x+fZ xs
def gB (x:List aN):Nat:=x.length+fZ x
def qD (x:List aN):Prop:=x.length≤1048576∧∀ y∈x,aN.sml y
def ph:List aN→Int→List aN
 | [],_=>[]
 | x::xs,k=>aN.mark x k::ph xs (k+(aN.cnt x:Nat))
theorem lS:∀ {x:List aN} {y:aN},y∈x→aN.sz y≤fZ x
 | [],y,h=>by simp at h
 | x::xs,y,h=>by
  simp only[fZ]
  rcases List.mem_cons.1 h with rfl|h
  ·omega
  ·have:=lS h;omega
theorem si {x:List aN} (h:gB x≤1048576):qD x:=⟨by unfold gB at h;omega,fun y hy=>aN.sml_of (by have:=lS hy;unfold gB at h;omega)⟩
theorem lY:∀ (x:List aN),fU x≤8*fZ x
 | []=>by simp[fU]
 | x::xs=>by have:=lY xs;have:=aN.cnt_le x;simp only[fU,fZ];omega
theorem tD (x:List aN):fU x≤8*gB x:=by have:=lY x;unfold gB;omega
structure aY where
 Next:Int
 Objs:List aN
deriving DecidableEq,Inhabited
def aY.enc (o:dy) (x:aY):List C:=[I x.Next,.s o (x.Objs.map (aN.enc o))]
theorem aY.enc_fz (x:aY):dV (aY.enc .own x)=aY.enc .imm x:=by simp[dV,aY.enc,aN.enc_fz,←cR,Function.comp_def]
theorem aY.enc_fr (x:aY):fK (aY.enc .own x):=⟨trivial,⟨.inl fun h=>(by cases h),aO _ _ fun y _=>aN.enc_fr y⟩,trivial⟩
def aY.wf (x:aY):Prop:=gz x.Next∧BD x.Objs
def aY.cnt (x:aY):Nat:=fU x.Objs
def aY.sz (x:aY):Nat:=gB x.Objs
def aY.sml (x:aY):Prop:=qD x.Objs
theorem aY.sml_of {x:aY} (h:aY.sz x≤1048576):aY.sml x:=si (by unfold aY.sz at h;omega)
theorem aY.cnt_le (x:aY):aY.cnt x≤8*aY.sz x:=by unfold aY.cnt aY.sz;have:=tD x.Objs;omega
def aY.mark (x:aY) (k:Int):aY:={x with Objs:=ph x.Objs (k)}
structure cq where
 Heap:ac
 Ref:aY
deriving DecidableEq,Inhabited
def cq.enc (o:dy) (x:cq):List C:=[.s o (x.Heap.Kernel.Machine.Frames.Cells.map (aI o)),.s o (x.Heap.Kernel.Machine.Frames.Used.map (rB o)),.s o (x.Heap.Kernel.Machine.Table.Entries.map (aE.enc o)),I x.Heap.Kernel.Calls,.s o (x.Heap.Kernel.Refuse.map (rI o)),.s o (x.Heap.Free.map (al.enc o)),.s o (x.Heap.Spans.map (am.enc o)),.s o (x.Heap.Larges.map (ah.enc o)),.s o (x.Heap.Objs.map (aM.enc o)),.s o (x.Heap.Caches.map (ar.enc o)),.s o (x.Heap.Mail.Buffers.map (br o)),.s o (x.Heap.Mail.Inbox.map (aI o)),I x.Heap.Quar.Room,.s o (x.Heap.Quar.Lst.map (ax.enc o)),I x.Heap.Seed,I x.Heap.Clock,I x.Heap.Limit,I x.Heap.Next,B x.Heap.Meshing,I x.Heap.Job.Plan.Keep,I x.Heap.Job.Plan.Move,.s o (x.Heap.Job.Plan.Cells.map (rI o)),I x.Heap.Job.Phase,I x.Heap.Job.Next,I x.Ref.Next,.s o (x.Ref.Objs.map (aN.enc o))]
theorem cq.enc_fz (x:cq):dV (cq.enc .own x)=cq.enc .imm x:=by simp[dV,cq.enc,ar.enc_fz,aE.enc_fz,ah.enc_fz,aM.enc_fz,al.enc_fz,aN.enc_fz,am.enc_fz,ax.enc_fz,rB,o6,rI,eC,←cR,Function.comp_def]
theorem cq.enc_fr (x:cq):fK (cq.enc .own x):=⟨⟨.inl fun h=>(by cases h),aO _ _ fun y _=>bZ y⟩,⟨.inl fun h=>(by cases h),aO _ _ fun y _=>v8 y⟩,⟨.inl fun h=>(by cases h),aO _ _ fun y _=>aE.enc_fr y⟩,trivial,⟨.inl fun h=>(by cases h),aO _ _ fun y _=>pp y⟩,⟨.inl fun h=>(by cases h),aO _ _ fun y _=>al.enc_fr y⟩,⟨.inl fun h=>(by cases h),aO _ _ fun y _=>am.enc_fr y⟩,⟨.inl fun h=>(by cases h),aO _ _ fun y _=>ah.enc_fr y⟩,⟨.inl fun h=>(by cases h),aO _ _ fun y _=>aM.enc_fr y⟩,⟨.inl fun h=>(by cases h),aO _ _ fun y _=>ar.enc_fr y⟩,⟨.inl fun h=>(by cases h),aO _ _ fun y _=>jl y⟩,⟨.inl fun h=>(by cases h),aO _ _ fun y _=>bZ y⟩,trivial,⟨.inl fun h=>(by cases h),aO _ _ fun y _=>ax.enc_fr y⟩,trivial,trivial,trivial,trivial,trivial,trivial,trivial,⟨.inl fun h=>(by cases h),aO _ _ fun y _=>pp y⟩,trivial,trivial,trivial,⟨.inl fun h=>(by cases h),aO _ _ fun y _=>aN.enc_fr y⟩,trivial⟩
def cq.wf (x:cq):Prop:=ac.wf x.Heap∧aY.wf x.Ref
def cq.cnt (x:cq):Nat:=ac.cnt x.Heap+aY.cnt x.Ref
def cq.sz (x:cq):Nat:=ac.sz x.Heap+aY.sz x.Ref
def cq.sml (x:cq):Prop:=ac.sml x.Heap∧aY.sml x.Ref
theorem cq.sml_of {x:cq} (h:cq.sz x≤1048576):cq.sml x:=⟨ac.sml_of (by unfold cq.sz at h;omega),aY.sml_of (by unfold cq.sz at h;omega)⟩
theorem cq.cnt_le (x:cq):cq.cnt x≤8*cq.sz x:=by unfold cq.cnt cq.sz;have:=ac.cnt_le x.Heap;have:=aY.cnt_le x.Ref;omega
def cq.mark (x:cq) (k:Int):cq:={x with Heap:=ac.mark x.Heap (k),Ref:=aY.mark x.Ref (k+(ac.cnt x.Heap:Nat))}
structure bM where
 Pages:Int
 Mapped:Int
 Frames:Int
 Held:Int
 Live:Int
 Cached:Int
 Stale:Int
 Posted:Int
deriving DecidableEq,Inhabited
def bM.enc (o:dy) (x:bM):List C:=[I x.Pages,I x.Mapped,I x.Frames,I x.Held,I x.Live,I x.Cached,I x.Stale,I x.Posted]
theorem bM.enc_fz (x:bM):dV (bM.enc .own x)=bM.enc .imm x:=by simp[dV,bM.enc]
theorem bM.enc_fr (x:bM):fK (bM.enc .own x):=⟨trivial,trivial,trivial,trivial,trivial,trivial,trivial,trivial,trivial⟩
def bM.wf (x:bM):Prop:=gz x.Pages∧gz x.Mapped∧gz x.Frames∧gz x.Held∧gz x.Live∧gz x.Cached∧gz x.Stale∧gz x.Posted
def bM.cnt (_:bM):Nat:=8
def bM.sml (_:bM):Prop:=True
def bM.sz (_:bM):Nat:=0
theorem bM.sml_of {x:bM} (_:bM.sz x≤1048576):bM.sml x:=trivial
def bM.mark (_:bM) (k:Int):bM:=⟨k,k+1,k+1+1,k+1+1+1,k+1+1+1+1,k+1+1+1+1+1,k+1+1+1+1+1+1,k+1+1+1+1+1+1+1⟩
end Go.Proofs.YtogajjgmcnjkbaaGreat.Ab
namespace Go.Proofs.YtogajjgmcnjkbaaGreat.Ab
open Go.RowKit
theorem Lm {α β:Type} {f:α→β} {l:List α} {K:Nat→Prop} (h:K l.length):Ln (l.map f).length K:=Ln.mk (List.length_map ..) h
theorem Wm {z:Int} {K:Int→Prop} (h : -9223372036854775808≤z∧z≤9223372036854775807) (hK:K z):Wr .i64 z K:=Wr.mk (fV h.1 h.2) hK
theorem dT {p:Prop} [Decidable p] {X Y:Prop} (h:p) (hX:p→X):Bf (decide p) X Y:=.D hX fun e=>absurd h e
theorem dF {p:Prop} [Decidable p] {X Y:Prop} (h:¬p) (hY:¬p→Y):Bf (decide p) X Y:=.D (fun e=>absurd e h) hY
theorem nT {a b:Int} {X Y:Prop} (h:a≠b) (hX:a≠b→X):Bf (a != b) X Y:=.N hX fun e=>absurd e h
theorem nF {a b:Int} {X Y:Prop} (h:a=b) (hY:a=b→Y):Bf (a != b) X Y:=.N (fun e=>absurd h e) hY
theorem eT {a b:Int} {X Y:Prop} (h:a=b) (hX:a=b→X):Bf (a == b) X Y:=.E hX fun e=>absurd h e
theorem eF {a b:Int} {X Y:Prop} (h:a≠b) (hY:a≠b→Y):Bf (a == b) X Y:=.E (fun e=>absurd e h) hY
theorem Bn {b:Bool} {X Y:Prop} (h:Bf b Y X):Bf (!b) X Y:=.not h
theorem Bt {X Y:Prop} (h:X):Bf true X Y:=.t rfl h
theorem Bu {X Y:Prop} (h:Y):Bf false X Y:=.f rfl h
theorem Fm {k k':Kd} {cs cs':List C} (h1:k=k') (h:cs=cs'):oB k k' cs cs':=.mk h1 h
theorem fO {n f : Nat} {fn : Func} {c : Code} {sh : Bool} {A : List RA} {k : Kd} {rcs : List C} (tb : List (Nat × Nat × List Nat)) (hf : Tryz.prog.funcs[f]? = some fn) (hn : (fn.name == "runtime.NumGoroutine") = false) (hb : fn.body = some c) (hc : gt (qx tb) c = true) (hN : A.length + (fn.ntmps - A.length) = n) (hsh : sh = true ∨ fK rcs) (hp : aw Tryz.prog TE ⟨n, [], []⟩ (DF Tryz.prog TE ⟨n, [], []⟩ tb) c (H9 TE fn.results.toList k rcs) (lay (zl 0 A))) : af Tryz.prog f sh A k rcs := nn hf hn hb hc hN hsh hp
end Go.Proofs.YtogajjgmcnjkbaaGreat.Ab
