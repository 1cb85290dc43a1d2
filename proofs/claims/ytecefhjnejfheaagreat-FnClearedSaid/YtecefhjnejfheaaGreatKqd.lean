/- The types of the program as the abstract runs see them. Printed by gen_te.py. No condition. -/
import Derived.Test.YtecefhjnejfheaaGreatKqc
import Derived.KernelRfl
import Derived.Test.YtecefhjnejfheaaGreatProg
set_option linter.unusedVariables false
set_option linter.unusedSimpArgs false
set_option linter.constructorNameAsVariable false
namespace Go.Proofs.YtecefhjnejfheaaGreat.Ab
open Go.RowKit
def Ho:List (Nat × TI)->Nat->Option TI
 | [],_=>none
 | p::l,t=>bif Nat.beq t p.1 then some p.2 else Ho l t
def PY(P:Program):List (Nat × TI)->Prop
 | []=>True
 | p::l=>bL P p.1 p.2/\PY P l
theorem Dz{P:Program} : ∀{l:List (Nat × TI)},PY P l->∀t i,Ho l t=some i->bL P t i
 | [],_,t,i,h=>by cases h
 | p::l,b,t,i,h=>by
  simp only[Ho]at h;cases a:Nat.beq t p.1 with
  | true=>
   rw[a]at h;simp only[cond_true,X0]at h;have:=W1 a;subst this h;exact b.1
  | false=>rw[a]at h;exact Dz b.2 t i h
def ti3:TI:=⟨1,8,[.v (.int .i64 0)],.sc (.int .i64)⟩
theorem tok3:bL Tryz.prog 3 ti3:=⟨by kernel_rfl,by simp[ti3,aC,Value.oneCell'],⟨Tryz.underlying3,trivial⟩⟩
def ti4:TI:=⟨1,1,[.v (.bool false)],.sc .bool⟩
theorem tok4:bL Tryz.prog 4 ti4:=⟨by kernel_rfl,by simp[ti4,aC,Value.oneCell'],⟨Tryz.underlying4,trivial⟩⟩
def ti2:TI:=⟨1,8,[.v (.int .i64 0)],.sc (.int .i64)⟩
theorem tok2:bL Tryz.prog 2 ti2:=⟨by kernel_rfl,by simp[ti2,aC,Value.oneCell'],⟨Tryz.underlying2,trivial⟩⟩
def ti5:TI:=⟨1,1,[.v (.int .u8 0)],.sc (.int .u8)⟩
theorem tok5:bL Tryz.prog 5 ti5:=⟨by kernel_rfl,by simp[ti5,aC,Value.oneCell'],⟨Tryz.underlying5,trivial⟩⟩
def ti6:TI:=⟨1,1,[.v (.int .u8 0)],.sc (.int .u8)⟩
theorem tok6:bL Tryz.prog 6 ti6:=⟨by kernel_rfl,by simp[ti6,aC,Value.oneCell'],⟨Tryz.underlying6,trivial⟩⟩
def ti7:TI:=⟨4,24,[.v (.int .i64 0),.v (.int .i64 0),.v (.bool false),.v (.int .u8 0)],.st [(0,2),(1,3),(2,4),(3,6)]⟩
theorem tok7:bL Tryz.prog 7 ti7:=⟨by kernel_rfl,by simp[ti7,aC,Value.oneCell'],⟨_,Tryz.underlying7,rfl⟩⟩
def ti8:TI:=⟨4,24,[.v (.int .i64 0),.v (.int .i64 0),.v (.bool false),.v (.int .u8 0)],.st [(0,2),(1,3),(2,4),(3,6)]⟩
theorem tok8:bL Tryz.prog 8 ti8:=⟨by kernel_rfl,by simp[ti8,aC,Value.oneCell'],⟨_,Tryz.underlying8,rfl⟩⟩
def ti9:TI:=⟨1,16,[.v (.string ⟨#[]⟩)],.sc .string⟩
theorem tok9:bL Tryz.prog 9 ti9:=⟨by kernel_rfl,by simp[ti9,aC,Value.oneCell'],⟨Tryz.underlying9,trivial⟩⟩
def ti10:TI:=⟨1,16,[.v (.string ⟨#[]⟩)],.sc .string⟩
theorem tok10:bL Tryz.prog 10 ti10:=⟨by kernel_rfl,by simp[ti10,aC,Value.oneCell'],⟨Tryz.underlying10,trivial⟩⟩
def ti11:TI:=⟨1,16,[.v (.string ⟨#[]⟩)],.sc .string⟩
theorem tok11:bL Tryz.prog 11 ti11:=⟨by kernel_rfl,by simp[ti11,aC,Value.oneCell'],⟨Tryz.underlying11,trivial⟩⟩
def ti12:TI:=⟨1,8,[.v (.int .u64 0)],.sc (.int .u64)⟩
theorem tok12:bL Tryz.prog 12 ti12:=⟨by kernel_rfl,by simp[ti12,aC,Value.oneCell'],⟨Tryz.underlying12,trivial⟩⟩
def ti13:TI:=⟨2,24,[.v (.string ⟨#[]⟩),.v (.int .u64 0)],.st [(0,9),(1,12)]⟩
theorem tok13:bL Tryz.prog 13 ti13:=⟨by kernel_rfl,by simp[ti13,aC,Value.oneCell'],⟨_,Tryz.underlying13,rfl⟩⟩
def ti14:TI:=⟨2,24,[.v (.string ⟨#[]⟩),.v (.int .u64 0)],.st [(0,9),(1,12)]⟩
theorem tok14:bL Tryz.prog 14 ti14:=⟨by kernel_rfl,by simp[ti14,aC,Value.oneCell'],⟨_,Tryz.underlying14,rfl⟩⟩
def ti21:TI:=⟨1,4,[.v (.int .i32 0)],.sc (.int .i32)⟩
theorem tok21:bL Tryz.prog 21 ti21:=⟨by kernel_rfl,by simp[ti21,aC,Value.oneCell'],⟨Tryz.underlying21,trivial⟩⟩
def ti22:TI:=⟨1,24,[.z],.sl 5⟩
theorem tok22:bL Tryz.prog 22 ti22:=⟨by kernel_rfl,by simp[ti22,aC,Value.oneCell'],Tryz.underlying22⟩
def ti24:TI:=⟨1,24,[.z],.sl 33⟩
theorem tok24:bL Tryz.prog 24 ti24:=⟨by kernel_rfl,by simp[ti24,aC,Value.oneCell'],Tryz.underlying24⟩
def ti25:TI:=⟨1,24,[.z],.sl 4⟩
theorem tok25:bL Tryz.prog 25 ti25:=⟨by kernel_rfl,by simp[ti25,aC,Value.oneCell'],Tryz.underlying25⟩
def ti26:TI:=⟨2,48,[.z,.z],.st [(0,24),(1,25)]⟩
theorem tok26:bL Tryz.prog 26 ti26:=⟨by kernel_rfl,by simp[ti26,aC,Value.oneCell'],⟨_,Tryz.underlying26,rfl⟩⟩
def ti27:TI:=⟨2,48,[.z,.z],.st [(0,24),(1,25)]⟩
theorem tok27:bL Tryz.prog 27 ti27:=⟨by kernel_rfl,by simp[ti27,aC,Value.oneCell'],⟨_,Tryz.underlying27,rfl⟩⟩
def ti28:TI:=⟨1,24,[.z],.sl 98⟩
theorem tok28:bL Tryz.prog 28 ti28:=⟨by kernel_rfl,by simp[ti28,aC,Value.oneCell'],Tryz.underlying28⟩
def ti29:TI:=⟨1,24,[.z],.st [(0,28)]⟩
theorem tok29:bL Tryz.prog 29 ti29:=⟨by kernel_rfl,by simp[ti29,aC,Value.oneCell'],⟨_,Tryz.underlying29,rfl⟩⟩
def ti30:TI:=⟨1,24,[.z],.st [(0,28)]⟩
theorem tok30:bL Tryz.prog 30 ti30:=⟨by kernel_rfl,by simp[ti30,aC,Value.oneCell'],⟨_,Tryz.underlying30,rfl⟩⟩
def ti31:TI:=⟨3,72,[.z,.z,.z],.st [(0,27),(2,30)]⟩
theorem tok31:bL Tryz.prog 31 ti31:=⟨by kernel_rfl,by simp[ti31,aC,Value.oneCell'],⟨_,Tryz.underlying31,rfl⟩⟩
def ti32:TI:=⟨3,72,[.z,.z,.z],.st [(0,27),(2,30)]⟩
theorem tok32:bL Tryz.prog 32 ti32:=⟨by kernel_rfl,by simp[ti32,aC,Value.oneCell'],⟨_,Tryz.underlying32,rfl⟩⟩
def ti33:TI:=⟨1,24,[.z],.sl 3⟩
theorem tok33:bL Tryz.prog 33 ti33:=⟨by kernel_rfl,by simp[ti33,aC,Value.oneCell'],Tryz.underlying33⟩
def ti34:TI:=⟨5,104,[.z,.z,.z,.v (.int .i64 0),.z],.st [(0,32),(3,3),(4,33)]⟩
theorem tok34:bL Tryz.prog 34 ti34:=⟨by kernel_rfl,by simp[ti34,aC,Value.oneCell'],⟨_,Tryz.underlying34,rfl⟩⟩
def ti35:TI:=⟨5,104,[.z,.z,.z,.v (.int .i64 0),.z],.st [(0,32),(3,3),(4,33)]⟩
theorem tok35:bL Tryz.prog 35 ti35:=⟨by kernel_rfl,by simp[ti35,aC,Value.oneCell'],⟨_,Tryz.underlying35,rfl⟩⟩
def ti36:TI:=⟨1,24,[.z],.sl 216⟩
theorem tok36:bL Tryz.prog 36 ti36:=⟨by kernel_rfl,by simp[ti36,aC,Value.oneCell'],Tryz.underlying36⟩
def ti37:TI:=⟨1,24,[.z],.sl 167⟩
theorem tok37:bL Tryz.prog 37 ti37:=⟨by kernel_rfl,by simp[ti37,aC,Value.oneCell'],Tryz.underlying37⟩
def ti38:TI:=⟨1,24,[.z],.sl 211⟩
theorem tok38:bL Tryz.prog 38 ti38:=⟨by kernel_rfl,by simp[ti38,aC,Value.oneCell'],Tryz.underlying38⟩
def ti39:TI:=⟨1,24,[.z],.sl 74⟩
theorem tok39:bL Tryz.prog 39 ti39:=⟨by kernel_rfl,by simp[ti39,aC,Value.oneCell'],Tryz.underlying39⟩
def ti40:TI:=⟨1,24,[.z],.sl 152⟩
theorem tok40:bL Tryz.prog 40 ti40:=⟨by kernel_rfl,by simp[ti40,aC,Value.oneCell'],Tryz.underlying40⟩
def ti41:TI:=⟨1,24,[.z],.sl 228⟩
theorem tok41:bL Tryz.prog 41 ti41:=⟨by kernel_rfl,by simp[ti41,aC,Value.oneCell'],Tryz.underlying41⟩
def ti42:TI:=⟨2,48,[.z,.z],.st [(0,41),(1,24)]⟩
theorem tok42:bL Tryz.prog 42 ti42:=⟨by kernel_rfl,by simp[ti42,aC,Value.oneCell'],⟨_,Tryz.underlying42,rfl⟩⟩
def ti43:TI:=⟨2,48,[.z,.z],.st [(0,41),(1,24)]⟩
theorem tok43:bL Tryz.prog 43 ti43:=⟨by kernel_rfl,by simp[ti43,aC,Value.oneCell'],⟨_,Tryz.underlying43,rfl⟩⟩
def ti44:TI:=⟨1,24,[.z],.sl 226⟩
theorem tok44:bL Tryz.prog 44 ti44:=⟨by kernel_rfl,by simp[ti44,aC,Value.oneCell'],Tryz.underlying44⟩
def ti45:TI:=⟨2,32,[.v (.int .i64 0),.z],.st [(0,3),(1,44)]⟩
theorem tok45:bL Tryz.prog 45 ti45:=⟨by kernel_rfl,by simp[ti45,aC,Value.oneCell'],⟨_,Tryz.underlying45,rfl⟩⟩
def ti46:TI:=⟨2,32,[.v (.int .i64 0),.z],.st [(0,3),(1,44)]⟩
theorem tok46:bL Tryz.prog 46 ti46:=⟨by kernel_rfl,by simp[ti46,aC,Value.oneCell'],⟨_,Tryz.underlying46,rfl⟩⟩
def ti47:TI:=⟨3,40,[.v (.int .i64 0),.v (.int .i64 0),.z],.st [(0,3),(1,3),(2,33)]⟩
theorem tok47:bL Tryz.prog 47 ti47:=⟨by kernel_rfl,by simp[ti47,aC,Value.oneCell'],⟨_,Tryz.underlying47,rfl⟩⟩
def ti48:TI:=⟨3,40,[.v (.int .i64 0),.v (.int .i64 0),.z],.st [(0,3),(1,3),(2,33)]⟩
theorem tok48:bL Tryz.prog 48 ti48:=⟨by kernel_rfl,by simp[ti48,aC,Value.oneCell'],⟨_,Tryz.underlying48,rfl⟩⟩
def ti49:TI:=⟨5,56,[.v (.int .i64 0),.v (.int .i64 0),.z,.v (.int .i64 0),.v (.int .i64 0)],.st [(0,48),(3,3),(4,3)]⟩
theorem tok49:bL Tryz.prog 49 ti49:=⟨by kernel_rfl,by simp[ti49,aC,Value.oneCell'],⟨_,Tryz.underlying49,rfl⟩⟩
def ti50:TI:=⟨5,56,[.v (.int .i64 0),.v (.int .i64 0),.z,.v (.int .i64 0),.v (.int .i64 0)],.st [(0,48),(3,3),(4,3)]⟩
theorem tok50:bL Tryz.prog 50 ti50:=⟨by kernel_rfl,by simp[ti50,aC,Value.oneCell'],⟨_,Tryz.underlying50,rfl⟩⟩
def ti51:TI:=⟨24,400,[.z,.z,.z,.v (.int .i64 0),.z,.z,.z,.z,.z,.z,.z,.z,.v (.int .i64 0),.z,.v (.int .i64 0),.v (.int .i64 0),.v (.int .i64 0),.v (.int .i64 0),.v (.bool false),.v (.int .i64 0),.v (.int .i64 0),.z,.v (.int .i64 0),.v (.int .i64 0)],.st [(0,35),(5,36),(6,37),(7,38),(8,39),(9,40),(10,43),(12,46),(14,3),(15,3),(16,3),(17,3),(18,4),(19,50)]⟩
theorem tok51:bL Tryz.prog 51 ti51:=⟨by kernel_rfl,by simp[ti51,aC,Value.oneCell'],⟨_,Tryz.underlying51,rfl⟩⟩
def ti52:TI:=⟨24,400,[.z,.z,.z,.v (.int .i64 0),.z,.z,.z,.z,.z,.z,.z,.z,.v (.int .i64 0),.z,.v (.int .i64 0),.v (.int .i64 0),.v (.int .i64 0),.v (.int .i64 0),.v (.bool false),.v (.int .i64 0),.v (.int .i64 0),.z,.v (.int .i64 0),.v (.int .i64 0)],.st [(0,35),(5,36),(6,37),(7,38),(8,39),(9,40),(10,43),(12,46),(14,3),(15,3),(16,3),(17,3),(18,4),(19,50)]⟩
theorem tok52:bL Tryz.prog 52 ti52:=⟨by kernel_rfl,by simp[ti52,aC,Value.oneCell'],⟨_,Tryz.underlying52,rfl⟩⟩
def ti53:TI:=⟨1,24,[.z],.sl 82⟩
theorem tok53:bL Tryz.prog 53 ti53:=⟨by kernel_rfl,by simp[ti53,aC,Value.oneCell'],Tryz.underlying53⟩
def ti54:TI:=⟨2,32,[.v (.int .i64 0),.z],.st [(0,3),(1,53)]⟩
theorem tok54:bL Tryz.prog 54 ti54:=⟨by kernel_rfl,by simp[ti54,aC,Value.oneCell'],⟨_,Tryz.underlying54,rfl⟩⟩
def ti55:TI:=⟨2,32,[.v (.int .i64 0),.z],.st [(0,3),(1,53)]⟩
theorem tok55:bL Tryz.prog 55 ti55:=⟨by kernel_rfl,by simp[ti55,aC,Value.oneCell'],⟨_,Tryz.underlying55,rfl⟩⟩
def ti56:TI:=⟨26,432,[.z,.z,.z,.v (.int .i64 0),.z,.z,.z,.z,.z,.z,.z,.z,.v (.int .i64 0),.z,.v (.int .i64 0),.v (.int .i64 0),.v (.int .i64 0),.v (.int .i64 0),.v (.bool false),.v (.int .i64 0),.v (.int .i64 0),.z,.v (.int .i64 0),.v (.int .i64 0),.v (.int .i64 0),.z],.st [(0,52),(24,55)]⟩
theorem tok56:bL Tryz.prog 56 ti56:=⟨by kernel_rfl,by simp[ti56,aC,Value.oneCell'],⟨_,Tryz.underlying56,rfl⟩⟩
def ti57:TI:=⟨26,432,[.z,.z,.z,.v (.int .i64 0),.z,.z,.z,.z,.z,.z,.z,.z,.v (.int .i64 0),.z,.v (.int .i64 0),.v (.int .i64 0),.v (.int .i64 0),.v (.int .i64 0),.v (.bool false),.v (.int .i64 0),.v (.int .i64 0),.z,.v (.int .i64 0),.v (.int .i64 0),.v (.int .i64 0),.z],.st [(0,52),(24,55)]⟩
theorem tok57:bL Tryz.prog 57 ti57:=⟨by kernel_rfl,by simp[ti57,aC,Value.oneCell'],⟨_,Tryz.underlying57,rfl⟩⟩
def ti73:TI:=⟨4,32,[.v (.int .i64 0),.v (.int .i64 0),.v (.int .i64 0),.v (.int .i64 0)],.st [(0,3),(1,3),(2,3),(3,3)]⟩
theorem tok73:bL Tryz.prog 73 ti73:=⟨by kernel_rfl,by simp[ti73,aC,Value.oneCell'],⟨_,Tryz.underlying73,rfl⟩⟩
def ti74:TI:=⟨4,32,[.v (.int .i64 0),.v (.int .i64 0),.v (.int .i64 0),.v (.int .i64 0)],.st [(0,3),(1,3),(2,3),(3,3)]⟩
theorem tok74:bL Tryz.prog 74 ti74:=⟨by kernel_rfl,by simp[ti74,aC,Value.oneCell'],⟨_,Tryz.underlying74,rfl⟩⟩
def ti76:TI:=⟨8,64,[.v (.int .i64 0),.v (.int .i64 0),.v (.int .i64 0),.v (.int .i64 0),.v (.int .i64 0),.v (.int .i64 0),.v (.int .i64 0),.v (.int .i64 0)],.st [(0,3),(1,3),(2,3),(3,3),(4,3),(5,3),(6,3),(7,3)]⟩
theorem tok76:bL Tryz.prog 76 ti76:=⟨by kernel_rfl,by simp[ti76,aC,Value.oneCell'],⟨_,Tryz.underlying76,rfl⟩⟩
def ti77:TI:=⟨8,64,[.v (.int .i64 0),.v (.int .i64 0),.v (.int .i64 0),.v (.int .i64 0),.v (.int .i64 0),.v (.int .i64 0),.v (.int .i64 0),.v (.int .i64 0)],.st [(0,3),(1,3),(2,3),(3,3),(4,3),(5,3),(6,3),(7,3)]⟩
theorem tok77:bL Tryz.prog 77 ti77:=⟨by kernel_rfl,by simp[ti77,aC,Value.oneCell'],⟨_,Tryz.underlying77,rfl⟩⟩
def ti79:TI:=⟨1,24,[.z],.sl 84⟩
theorem tok79:bL Tryz.prog 79 ti79:=⟨by kernel_rfl,by simp[ti79,aC,Value.oneCell'],Tryz.underlying79⟩
def ti81:TI:=⟨2,32,[.v (.int .i64 0),.z],.st [(0,3),(1,33)]⟩
theorem tok81:bL Tryz.prog 81 ti81:=⟨by kernel_rfl,by simp[ti81,aC,Value.oneCell'],⟨_,Tryz.underlying81,rfl⟩⟩
def ti82:TI:=⟨2,32,[.v (.int .i64 0),.z],.st [(0,3),(1,33)]⟩
theorem tok82:bL Tryz.prog 82 ti82:=⟨by kernel_rfl,by simp[ti82,aC,Value.oneCell'],⟨_,Tryz.underlying82,rfl⟩⟩
def ti83:TI:=⟨3,24,[.v (.int .i64 0),.v (.int .i64 0),.v (.int .i64 0)],.st [(0,3),(1,3),(2,3)]⟩
theorem tok83:bL Tryz.prog 83 ti83:=⟨by kernel_rfl,by simp[ti83,aC,Value.oneCell'],⟨_,Tryz.underlying83,rfl⟩⟩
def ti84:TI:=⟨3,24,[.v (.int .i64 0),.v (.int .i64 0),.v (.int .i64 0)],.st [(0,3),(1,3),(2,3)]⟩
theorem tok84:bL Tryz.prog 84 ti84:=⟨by kernel_rfl,by simp[ti84,aC,Value.oneCell'],⟨_,Tryz.underlying84,rfl⟩⟩
def ti88:TI:=⟨5,40,[.v (.int .i64 0),.v (.int .i64 0),.v (.int .i64 0),.v (.int .i64 0),.v (.int .i64 0)],.st [(0,3),(1,3),(2,3),(3,3),(4,3)]⟩
theorem tok88:bL Tryz.prog 88 ti88:=⟨by kernel_rfl,by simp[ti88,aC,Value.oneCell'],⟨_,Tryz.underlying88,rfl⟩⟩
def ti89:TI:=⟨5,40,[.v (.int .i64 0),.v (.int .i64 0),.v (.int .i64 0),.v (.int .i64 0),.v (.int .i64 0)],.st [(0,3),(1,3),(2,3),(3,3),(4,3)]⟩
theorem tok89:bL Tryz.prog 89 ti89:=⟨by kernel_rfl,by simp[ti89,aC,Value.oneCell'],⟨_,Tryz.underlying89,rfl⟩⟩
def ti97:TI:=⟨2,16,[.v (.int .i64 0),.v (.int .i64 0)],.st [(0,3),(1,3)]⟩
theorem tok97:bL Tryz.prog 97 ti97:=⟨by kernel_rfl,by simp[ti97,aC,Value.oneCell'],⟨_,Tryz.underlying97,rfl⟩⟩
def ti98:TI:=⟨2,16,[.v (.int .i64 0),.v (.int .i64 0)],.st [(0,3),(1,3)]⟩
theorem tok98:bL Tryz.prog 98 ti98:=⟨by kernel_rfl,by simp[ti98,aC,Value.oneCell'],⟨_,Tryz.underlying98,rfl⟩⟩
def ti101:TI:=⟨2,48,[.z,.z],.st [(0,24),(1,25)]⟩
theorem tok101:bL Tryz.prog 101 ti101:=⟨by kernel_rfl,by simp[ti101,aC,Value.oneCell'],⟨_,Tryz.underlying101,rfl⟩⟩
def ti102:TI:=⟨1,24,[.z],.sl 493⟩
theorem tok102:bL Tryz.prog 102 ti102:=⟨by kernel_rfl,by simp[ti102,aC,Value.oneCell'],Tryz.underlying102⟩
def ti103:TI:=⟨1,24,[.z],.st [(0,102)]⟩
theorem tok103:bL Tryz.prog 103 ti103:=⟨by kernel_rfl,by simp[ti103,aC,Value.oneCell'],⟨_,Tryz.underlying103,rfl⟩⟩
def ti104:TI:=⟨1,24,[.z],.st [(0,102)]⟩
theorem tok104:bL Tryz.prog 104 ti104:=⟨by kernel_rfl,by simp[ti104,aC,Value.oneCell'],⟨_,Tryz.underlying104,rfl⟩⟩
def ti105:TI:=⟨3,72,[.z,.z,.z],.st [(0,101),(2,104)]⟩
theorem tok105:bL Tryz.prog 105 ti105:=⟨by kernel_rfl,by simp[ti105,aC,Value.oneCell'],⟨_,Tryz.underlying105,rfl⟩⟩
def ti106:TI:=⟨3,72,[.z,.z,.z],.st [(0,101),(2,104)]⟩
theorem tok106:bL Tryz.prog 106 ti106:=⟨by kernel_rfl,by simp[ti106,aC,Value.oneCell'],⟨_,Tryz.underlying106,rfl⟩⟩
def ti107:TI:=⟨5,104,[.z,.z,.z,.v (.int .i64 0),.z],.st [(0,106),(3,3),(4,33)]⟩
theorem tok107:bL Tryz.prog 107 ti107:=⟨by kernel_rfl,by simp[ti107,aC,Value.oneCell'],⟨_,Tryz.underlying107,rfl⟩⟩
def ti108:TI:=⟨5,104,[.z,.z,.z,.v (.int .i64 0),.z],.st [(0,106),(3,3),(4,33)]⟩
theorem tok108:bL Tryz.prog 108 ti108:=⟨by kernel_rfl,by simp[ti108,aC,Value.oneCell'],⟨_,Tryz.underlying108,rfl⟩⟩
def ti109:TI:=⟨1,24,[.z],.sl 351⟩
theorem tok109:bL Tryz.prog 109 ti109:=⟨by kernel_rfl,by simp[ti109,aC,Value.oneCell'],Tryz.underlying109⟩
def ti110:TI:=⟨1,24,[.z],.sl 353⟩
theorem tok110:bL Tryz.prog 110 ti110:=⟨by kernel_rfl,by simp[ti110,aC,Value.oneCell'],Tryz.underlying110⟩
def ti111:TI:=⟨1,24,[.z],.sl 355⟩
theorem tok111:bL Tryz.prog 111 ti111:=⟨by kernel_rfl,by simp[ti111,aC,Value.oneCell'],Tryz.underlying111⟩
def ti112:TI:=⟨1,24,[.z],.sl 357⟩
theorem tok112:bL Tryz.prog 112 ti112:=⟨by kernel_rfl,by simp[ti112,aC,Value.oneCell'],Tryz.underlying112⟩
def ti113:TI:=⟨1,24,[.z],.sl 344⟩
theorem tok113:bL Tryz.prog 113 ti113:=⟨by kernel_rfl,by simp[ti113,aC,Value.oneCell'],Tryz.underlying113⟩
def ti114:TI:=⟨1,24,[.z],.sl 431⟩
theorem tok114:bL Tryz.prog 114 ti114:=⟨by kernel_rfl,by simp[ti114,aC,Value.oneCell'],Tryz.underlying114⟩
def ti115:TI:=⟨2,48,[.z,.z],.st [(0,114),(1,24)]⟩
theorem tok115:bL Tryz.prog 115 ti115:=⟨by kernel_rfl,by simp[ti115,aC,Value.oneCell'],⟨_,Tryz.underlying115,rfl⟩⟩
def ti116:TI:=⟨2,48,[.z,.z],.st [(0,114),(1,24)]⟩
theorem tok116:bL Tryz.prog 116 ti116:=⟨by kernel_rfl,by simp[ti116,aC,Value.oneCell'],⟨_,Tryz.underlying116,rfl⟩⟩
def ti117:TI:=⟨1,24,[.z],.sl 436⟩
theorem tok117:bL Tryz.prog 117 ti117:=⟨by kernel_rfl,by simp[ti117,aC,Value.oneCell'],Tryz.underlying117⟩
def ti118:TI:=⟨2,32,[.v (.int .i64 0),.z],.st [(0,3),(1,117)]⟩
theorem tok118:bL Tryz.prog 118 ti118:=⟨by kernel_rfl,by simp[ti118,aC,Value.oneCell'],⟨_,Tryz.underlying118,rfl⟩⟩
def ti119:TI:=⟨2,32,[.v (.int .i64 0),.z],.st [(0,3),(1,117)]⟩
theorem tok119:bL Tryz.prog 119 ti119:=⟨by kernel_rfl,by simp[ti119,aC,Value.oneCell'],⟨_,Tryz.underlying119,rfl⟩⟩
def ti120:TI:=⟨3,40,[.v (.int .i64 0),.v (.int .i64 0),.z],.st [(0,3),(1,3),(2,33)]⟩
theorem tok120:bL Tryz.prog 120 ti120:=⟨by kernel_rfl,by simp[ti120,aC,Value.oneCell'],⟨_,Tryz.underlying120,rfl⟩⟩
def ti121:TI:=⟨5,56,[.v (.int .i64 0),.v (.int .i64 0),.z,.v (.int .i64 0),.v (.int .i64 0)],.st [(0,120),(3,3),(4,3)]⟩
theorem tok121:bL Tryz.prog 121 ti121:=⟨by kernel_rfl,by simp[ti121,aC,Value.oneCell'],⟨_,Tryz.underlying121,rfl⟩⟩
def ti122:TI:=⟨5,56,[.v (.int .i64 0),.v (.int .i64 0),.z,.v (.int .i64 0),.v (.int .i64 0)],.st [(0,120),(3,3),(4,3)]⟩
theorem tok122:bL Tryz.prog 122 ti122:=⟨by kernel_rfl,by simp[ti122,aC,Value.oneCell'],⟨_,Tryz.underlying122,rfl⟩⟩
def ti123:TI:=⟨24,400,[.z,.z,.z,.v (.int .i64 0),.z,.z,.z,.z,.z,.z,.z,.z,.v (.int .i64 0),.z,.v (.int .i64 0),.v (.int .i64 0),.v (.int .i64 0),.v (.int .i64 0),.v (.bool false),.v (.int .i64 0),.v (.int .i64 0),.z,.v (.int .i64 0),.v (.int .i64 0)],.st [(0,108),(5,109),(6,110),(7,111),(8,112),(9,113),(10,116),(12,119),(14,3),(15,3),(16,3),(17,3),(18,4),(19,122)]⟩
theorem tok123:bL Tryz.prog 123 ti123:=⟨by kernel_rfl,by simp[ti123,aC,Value.oneCell'],⟨_,Tryz.underlying123,rfl⟩⟩
def ti124:TI:=⟨24,400,[.z,.z,.z,.v (.int .i64 0),.z,.z,.z,.z,.z,.z,.z,.z,.v (.int .i64 0),.z,.v (.int .i64 0),.v (.int .i64 0),.v (.int .i64 0),.v (.int .i64 0),.v (.bool false),.v (.int .i64 0),.v (.int .i64 0),.z,.v (.int .i64 0),.v (.int .i64 0)],.st [(0,108),(5,109),(6,110),(7,111),(8,112),(9,113),(10,116),(12,119),(14,3),(15,3),(16,3),(17,3),(18,4),(19,122)]⟩
theorem tok124:bL Tryz.prog 124 ti124:=⟨by kernel_rfl,by simp[ti124,aC,Value.oneCell'],⟨_,Tryz.underlying124,rfl⟩⟩
def ti151:TI:=⟨1,24,[.z],.st [(0,24)]⟩
theorem tok151:bL Tryz.prog 151 ti151:=⟨by kernel_rfl,by simp[ti151,aC,Value.oneCell'],⟨_,Tryz.underlying151,rfl⟩⟩
def ti152:TI:=⟨1,24,[.z],.st [(0,24)]⟩
theorem tok152:bL Tryz.prog 152 ti152:=⟨by kernel_rfl,by simp[ti152,aC,Value.oneCell'],⟨_,Tryz.underlying152,rfl⟩⟩
def ti166:TI:=⟨3,24,[.v (.int .i64 0),.v (.int .i64 0),.v (.int .i64 0)],.st [(0,3),(1,3),(2,3)]⟩
theorem tok166:bL Tryz.prog 166 ti166:=⟨by kernel_rfl,by simp[ti166,aC,Value.oneCell'],⟨_,Tryz.underlying166,rfl⟩⟩
def ti167:TI:=⟨3,24,[.v (.int .i64 0),.v (.int .i64 0),.v (.int .i64 0)],.st [(0,3),(1,3),(2,3)]⟩
theorem tok167:bL Tryz.prog 167 ti167:=⟨by kernel_rfl,by simp[ti167,aC,Value.oneCell'],⟨_,Tryz.underlying167,rfl⟩⟩
def ti168:TI:=⟨4,32,[.v (.int .i64 0),.v (.int .i64 0),.v (.int .i64 0),.v (.int .i64 0)],.st [(0,3),(1,3),(2,3),(3,3)]⟩
theorem tok168:bL Tryz.prog 168 ti168:=⟨by kernel_rfl,by simp[ti168,aC,Value.oneCell'],⟨_,Tryz.underlying168,rfl⟩⟩
def ti169:TI:=⟨4,32,[.v (.int .i64 0),.v (.int .i64 0),.v (.int .i64 0),.v (.int .i64 0)],.st [(0,3),(1,3),(2,3),(3,3)]⟩
theorem tok169:bL Tryz.prog 169 ti169:=⟨by kernel_rfl,by simp[ti169,aC,Value.oneCell'],⟨_,Tryz.underlying169,rfl⟩⟩
def ti195:TI:=⟨1,24,[.z],.sl 201⟩
theorem tok195:bL Tryz.prog 195 ti195:=⟨by kernel_rfl,by simp[ti195,aC,Value.oneCell'],Tryz.underlying195⟩
def ti200:TI:=⟨2,16,[.v (.int .i64 0),.v (.int .i64 0)],.st [(0,3),(1,3)]⟩
theorem tok200:bL Tryz.prog 200 ti200:=⟨by kernel_rfl,by simp[ti200,aC,Value.oneCell'],⟨_,Tryz.underlying200,rfl⟩⟩
def ti201:TI:=⟨2,16,[.v (.int .i64 0),.v (.int .i64 0)],.st [(0,3),(1,3)]⟩
theorem tok201:bL Tryz.prog 201 ti201:=⟨by kernel_rfl,by simp[ti201,aC,Value.oneCell'],⟨_,Tryz.underlying201,rfl⟩⟩
def ti210:TI:=⟨3,24,[.v (.int .i64 0),.v (.int .i64 0),.v (.int .i64 0)],.st [(0,3),(1,3),(2,3)]⟩
theorem tok210:bL Tryz.prog 210 ti210:=⟨by kernel_rfl,by simp[ti210,aC,Value.oneCell'],⟨_,Tryz.underlying210,rfl⟩⟩
def ti211:TI:=⟨3,24,[.v (.int .i64 0),.v (.int .i64 0),.v (.int .i64 0)],.st [(0,3),(1,3),(2,3)]⟩
theorem tok211:bL Tryz.prog 211 ti211:=⟨by kernel_rfl,by simp[ti211,aC,Value.oneCell'],⟨_,Tryz.underlying211,rfl⟩⟩
def ti215:TI:=⟨2,16,[.v (.int .i64 0),.v (.int .i64 0)],.st [(0,3),(1,3)]⟩
theorem tok215:bL Tryz.prog 215 ti215:=⟨by kernel_rfl,by simp[ti215,aC,Value.oneCell'],⟨_,Tryz.underlying215,rfl⟩⟩
def ti216:TI:=⟨2,16,[.v (.int .i64 0),.v (.int .i64 0)],.st [(0,3),(1,3)]⟩
theorem tok216:bL Tryz.prog 216 ti216:=⟨by kernel_rfl,by simp[ti216,aC,Value.oneCell'],⟨_,Tryz.underlying216,rfl⟩⟩
def ti221:TI:=⟨2,16,[.v (.int .i64 0),.v (.int .i64 0)],.st [(0,3),(1,3)]⟩
theorem tok221:bL Tryz.prog 221 ti221:=⟨by kernel_rfl,by simp[ti221,aC,Value.oneCell'],⟨_,Tryz.underlying221,rfl⟩⟩
def ti222:TI:=⟨2,16,[.v (.int .i64 0),.v (.int .i64 0)],.st [(0,3),(1,3)]⟩
theorem tok222:bL Tryz.prog 222 ti222:=⟨by kernel_rfl,by simp[ti222,aC,Value.oneCell'],⟨_,Tryz.underlying222,rfl⟩⟩
def ti225:TI:=⟨3,24,[.v (.int .i64 0),.v (.int .i64 0),.v (.int .i64 0)],.st [(0,3),(1,3),(2,3)]⟩
theorem tok225:bL Tryz.prog 225 ti225:=⟨by kernel_rfl,by simp[ti225,aC,Value.oneCell'],⟨_,Tryz.underlying225,rfl⟩⟩
def ti226:TI:=⟨3,24,[.v (.int .i64 0),.v (.int .i64 0),.v (.int .i64 0)],.st [(0,3),(1,3),(2,3)]⟩
theorem tok226:bL Tryz.prog 226 ti226:=⟨by kernel_rfl,by simp[ti226,aC,Value.oneCell'],⟨_,Tryz.underlying226,rfl⟩⟩
def ti228:TI:=⟨1,24,[.z],.sl 222⟩
theorem tok228:bL Tryz.prog 228 ti228:=⟨by kernel_rfl,by simp[ti228,aC,Value.oneCell'],Tryz.underlying228⟩
def ti259:TI:=⟨5,56,[.v (.int .i64 0),.v (.int .i64 0),.v (.int .i64 0),.v (.int .i64 0),.z],.st [(0,3),(1,3),(2,3),(3,3),(4,33)]⟩
theorem tok259:bL Tryz.prog 259 ti259:=⟨by kernel_rfl,by simp[ti259,aC,Value.oneCell'],⟨_,Tryz.underlying259,rfl⟩⟩
def ti260:TI:=⟨5,56,[.v (.int .i64 0),.v (.int .i64 0),.v (.int .i64 0),.v (.int .i64 0),.z],.st [(0,3),(1,3),(2,3),(3,3),(4,33)]⟩
theorem tok260:bL Tryz.prog 260 ti260:=⟨by kernel_rfl,by simp[ti260,aC,Value.oneCell'],⟨_,Tryz.underlying260,rfl⟩⟩
def ti262:TI:=⟨1,24,[.z],.sl 89⟩
theorem tok262:bL Tryz.prog 262 ti262:=⟨by kernel_rfl,by simp[ti262,aC,Value.oneCell'],Tryz.underlying262⟩
def ti264:TI:=⟨3,40,[.z,.v (.int .i64 0),.v (.int .i64 0)],.st [(0,22),(1,3),(2,3)]⟩
theorem tok264:bL Tryz.prog 264 ti264:=⟨by kernel_rfl,by simp[ti264,aC,Value.oneCell'],⟨_,Tryz.underlying264,rfl⟩⟩
def ti265:TI:=⟨3,40,[.z,.v (.int .i64 0),.v (.int .i64 0)],.st [(0,22),(1,3),(2,3)]⟩
theorem tok265:bL Tryz.prog 265 ti265:=⟨by kernel_rfl,by simp[ti265,aC,Value.oneCell'],⟨_,Tryz.underlying265,rfl⟩⟩
def ti288:TI:=⟨1,8,[.v (.map none)],.mp 3 4 (.bool false)⟩
theorem tok288:bL Tryz.prog 288 ti288:=⟨by kernel_rfl,by simp[ti288,aC,Value.oneCell'],⟨Tryz.underlying288,Tryz.underlying3,by kernel_rfl,rfl⟩⟩
def ti295:TI:=⟨1,8,[.v (.map none)],.mp 3 3 (.int .i64 0)⟩
theorem tok295:bL Tryz.prog 295 ti295:=⟨by kernel_rfl,by simp[ti295,aC,Value.oneCell'],⟨Tryz.underlying295,Tryz.underlying3,by kernel_rfl,rfl⟩⟩
def ti309:TI:=⟨1,8,[.v (.int .u64 0)],.sc (.int .u64)⟩
theorem tok309:bL Tryz.prog 309 ti309:=⟨by kernel_rfl,by simp[ti309,aC,Value.oneCell'],⟨Tryz.underlying309,trivial⟩⟩
def ti344:TI:=⟨1,24,[.z],.st [(0,24)]⟩
theorem tok344:bL Tryz.prog 344 ti344:=⟨by kernel_rfl,by simp[ti344,aC,Value.oneCell'],⟨_,Tryz.underlying344,rfl⟩⟩
def ti351:TI:=⟨2,16,[.v (.int .i64 0),.v (.int .i64 0)],.st [(0,3),(1,3)]⟩
theorem tok351:bL Tryz.prog 351 ti351:=⟨by kernel_rfl,by simp[ti351,aC,Value.oneCell'],⟨_,Tryz.underlying351,rfl⟩⟩
def ti353:TI:=⟨3,24,[.v (.int .i64 0),.v (.int .i64 0),.v (.int .i64 0)],.st [(0,3),(1,3),(2,3)]⟩
theorem tok353:bL Tryz.prog 353 ti353:=⟨by kernel_rfl,by simp[ti353,aC,Value.oneCell'],⟨_,Tryz.underlying353,rfl⟩⟩
def ti355:TI:=⟨3,24,[.v (.int .i64 0),.v (.int .i64 0),.v (.int .i64 0)],.st [(0,3),(1,3),(2,3)]⟩
theorem tok355:bL Tryz.prog 355 ti355:=⟨by kernel_rfl,by simp[ti355,aC,Value.oneCell'],⟨_,Tryz.underlying355,rfl⟩⟩
def ti357:TI:=⟨4,32,[.v (.int .i64 0),.v (.int .i64 0),.v (.int .i64 0),.v (.int .i64 0)],.st [(0,3),(1,3),(2,3),(3,3)]⟩
theorem tok357:bL Tryz.prog 357 ti357:=⟨by kernel_rfl,by simp[ti357,aC,Value.oneCell'],⟨_,Tryz.underlying357,rfl⟩⟩
def ti400:TI:=⟨1,8,[.v (.int .i64 0)],.sc (.int .i64)⟩
theorem tok400:bL Tryz.prog 400 ti400:=⟨by kernel_rfl,by simp[ti400,aC,Value.oneCell'],⟨Tryz.underlying400,trivial⟩⟩
def ti407:TI:=⟨1,4,[.v (.int .u32 0)],.sc (.int .u32)⟩
theorem tok407:bL Tryz.prog 407 ti407:=⟨by kernel_rfl,by simp[ti407,aC,Value.oneCell'],⟨Tryz.underlying407,trivial⟩⟩
def ti409:TI:=⟨1,8,[.v (.int .u64 0)],.sc (.int .u64)⟩
theorem tok409:bL Tryz.prog 409 ti409:=⟨by kernel_rfl,by simp[ti409,aC,Value.oneCell'],⟨Tryz.underlying409,trivial⟩⟩
def ti431:TI:=⟨1,24,[.z],.sl 479⟩
theorem tok431:bL Tryz.prog 431 ti431:=⟨by kernel_rfl,by simp[ti431,aC,Value.oneCell'],Tryz.underlying431⟩
def ti436:TI:=⟨3,24,[.v (.int .i64 0),.v (.int .i64 0),.v (.int .i64 0)],.st [(0,3),(1,3),(2,3)]⟩
theorem tok436:bL Tryz.prog 436 ti436:=⟨by kernel_rfl,by simp[ti436,aC,Value.oneCell'],⟨_,Tryz.underlying436,rfl⟩⟩
def ti461:TI:=⟨1,8,[.v (.int .u64 0)],.sc (.int .u64)⟩
theorem tok461:bL Tryz.prog 461 ti461:=⟨by kernel_rfl,by simp[ti461,aC,Value.oneCell'],⟨Tryz.underlying461,trivial⟩⟩
def ti479:TI:=⟨2,16,[.v (.int .i64 0),.v (.int .i64 0)],.st [(0,3),(1,3)]⟩
theorem tok479:bL Tryz.prog 479 ti479:=⟨by kernel_rfl,by simp[ti479,aC,Value.oneCell'],⟨_,Tryz.underlying479,rfl⟩⟩
def ti493:TI:=⟨2,16,[.v (.int .i64 0),.v (.int .i64 0)],.st [(0,3),(1,3)]⟩
theorem tok493:bL Tryz.prog 493 ti493:=⟨by kernel_rfl,by simp[ti493,aC,Value.oneCell'],⟨_,Tryz.underlying493,rfl⟩⟩
def ti510:TI:=⟨0,0,[],.st [(0,509)]⟩
theorem tok510:bL Tryz.prog 510 ti510:=⟨by kernel_rfl,by simp[ti510,aC,Value.oneCell'],⟨_,Tryz.underlying510,rfl⟩⟩
def ti511:TI:=⟨0,0,[],.st [(0,509)]⟩
theorem tok511:bL Tryz.prog 511 ti511:=⟨by kernel_rfl,by simp[ti511,aC,Value.oneCell'],⟨_,Tryz.underlying511,rfl⟩⟩
def ti513:TI:=⟨1,1,[.v (.int .u8 0)],.sc (.int .u8)⟩
theorem tok513:bL Tryz.prog 513 ti513:=⟨by kernel_rfl,by simp[ti513,aC,Value.oneCell'],⟨Tryz.underlying513,trivial⟩⟩
def ti514:TI:=⟨1,1,[.v (.int .u8 0)],.sc (.int .u8)⟩
theorem tok514:bL Tryz.prog 514 ti514:=⟨by kernel_rfl,by simp[ti514,aC,Value.oneCell'],⟨Tryz.underlying514,trivial⟩⟩
def ti517:TI:=⟨1,4,[.v (.int .i32 0)],.sc (.int .i32)⟩
theorem tok517:bL Tryz.prog 517 ti517:=⟨by kernel_rfl,by simp[ti517,aC,Value.oneCell'],⟨Tryz.underlying517,trivial⟩⟩
def ti518:TI:=⟨1,4,[.v (.int .i32 0)],.sc (.int .i32)⟩
theorem tok518:bL Tryz.prog 518 ti518:=⟨by kernel_rfl,by simp[ti518,aC,Value.oneCell'],⟨Tryz.underlying518,trivial⟩⟩
def tab:List (Nat × TI):=[(3,ti3),(4,ti4),(2,ti2),(5,ti5),(6,ti6),(7,ti7),(8,ti8),(9,ti9),(10,ti10),(11,ti11),(12,ti12),(13,ti13),(14,ti14),(21,ti21),(22,ti22),(24,ti24),(25,ti25),(26,ti26),(27,ti27),(28,ti28),(29,ti29),(30,ti30),(31,ti31),(32,ti32),(33,ti33),(34,ti34),(35,ti35),(36,ti36),(37,ti37),(38,ti38),(39,ti39),(40,ti40),(41,ti41),(42,ti42),(43,ti43),(44,ti44),(45,ti45),(46,ti46),(47,ti47),(48,ti48),(49,ti49),(50,ti50),(51,ti51),(52,ti52),(53,ti53),(54,ti54),(55,ti55),(56,ti56),(57,ti57),(73,ti73),(74,ti74),(76,ti76),(77,ti77),(79,ti79),(81,ti81),(82,ti82),(83,ti83),(84,ti84),(88,ti88),(89,ti89),(97,ti97),(98,ti98),(101,ti101),(102,ti102),(103,ti103),(104,ti104),(105,ti105),(106,ti106),(107,ti107),(108,ti108),(109,ti109),(110,ti110),(111,ti111),(112,ti112),(113,ti113),(114,ti114),(115,ti115),(116,ti116),(117,ti117),(118,ti118),(119,ti119),(120,ti120),(121,ti121),(122,ti122),(123,ti123),(124,ti124),(151,ti151),(152,ti152),(166,ti166),(167,ti167),(168,ti168),(169,ti169),(195,ti195),(200,ti200),(201,ti201),(210,ti210),(211,ti211),(215,ti215),(216,ti216),(221,ti221),(222,ti222),(225,ti225),(226,ti226),(228,ti228),(259,ti259),(260,ti260),(262,ti262),(264,ti264),(265,ti265),(288,ti288),(295,ti295),(309,ti309),(344,ti344),(351,ti351),(353,ti353),(355,ti355),(357,ti357),(400,ti400),(407,ti407),(409,ti409),(431,ti431),(436,ti436),(461,ti461),(479,ti479),(493,ti493),(510,ti510),(511,ti511),(513,ti513),(514,ti514),(517,ti517),(518,ti518)]
theorem Qg:PY Tryz.prog tab:=⟨tok3,tok4,tok2,tok5,tok6,tok7,tok8,tok9,tok10,tok11,tok12,tok13,tok14,tok21,tok22,tok24,tok25,tok26,tok27,tok28,tok29,tok30,tok31,tok32,tok33,tok34,tok35,tok36,tok37,tok38,tok39,tok40,tok41,tok42,tok43,tok44,tok45,tok46,tok47,tok48,tok49,tok50,tok51,tok52,tok53,tok54,tok55,tok56,tok57,tok73,tok74,tok76,tok77,tok79,tok81,tok82,tok83,tok84,tok88,tok89,tok97,tok98,tok101,tok102,tok103,tok104,tok105,tok106,tok107,tok108,tok109,tok110,tok111,tok112,tok113,tok114,tok115,tok116,tok117,tok118,tok119,tok120,tok121,tok122,tok123,tok124,tok151,tok152,tok166,tok167,tok168,tok169,tok195,tok200,tok201,tok210,tok211,tok215,tok216,tok221,tok222,tok225,tok226,tok228,tok259,tok260,tok262,tok264,tok265,tok288,tok295,tok309,tok344,tok351,tok353,tok355,tok357,tok400,tok407,tok409,tok431,tok436,tok461,tok479,tok493,tok510,tok511,tok513,tok514,tok517,tok518,trivial⟩
def TE:Nat->Option TI:=Ho tab
theorem zQ:∀t i,TE t=some i->bL Tryz.prog t i:=Dz Qg
def Qc:C->Value->C
 | .s .own rows,v=>.s (.tag v) rows
 | c,_=>c
def y9(u:Nat->Value):Nat->List C->List C
 | _,[]=>[]
 | j,c::cs=>Qc c (u j)::y9 u (j+1) cs
def wL(u:Nat->Nat->Value):Nat->List MA->List (Nat × AV)
 | _,[]=>[]
 | i,.val a cs::A=>(i,.H (l8 a) cs)::wL u (i+1) A
 | i,.mut a cs::A=>(i,.H (l8 a) (y9 (u i) 0 cs))::wL u (i+1) A
 | i,.ptr cs::A=>(i,.H .box cs)::wL u (i+1) A
def G7(p:Nat->Value):Nat->List MA->List (Nat × Value)
 | _,[]=>[]
 | i,.ptr _::A=>(i,p i)::G7 p (i+1) A
 | i,_::A=>G7 p (i+1) A
def BI:Nat->List MA->List (Nat × Nat)->List (Option Nat)
 | i,.val _ _::A,_::pl=>none::BI (i+1) A pl
 | i,.mut _ _::A,p::pl=>some p.1::BI (i+1) A pl
 | i,.ptr _::A,_::pl=>some i::BI (i+1) A pl
 | _,_,_=>[]
def FK:List (Option Nat)->Bool
 | []=>true
 | none::l=>FK l
 | some t::l=>l.all (λx=>match x with|some a=>!Nat.beq t a|none=>true)&&FK l
def sles:List (Option Nat)->List Nat
 | []=>[]
 | none::l=>sles l
 | some t::l=>t::sles l
def Rf(v:Value)(c y o:C):Prop:=
 match c with
 | .s .own _=>(match y with|.s (.tag v') rows=>v'=v/\o=.s .own rows|_=>False)
 | .s (.tag _) _=>False
 | .m _=>False
 | .it _ _=>False
 | c=>o=c
def P8(u:Nat->Value):Nat->List C->List C->List C->Prop
 | _,[],_,o=>o=[]
 | j,c::cs,y::xs,o::os=>Rf (u j) c y o/\P8 u (j+1) cs xs os
 | _,_,_,_=>False
def iu(u:Nat->Nat->Value)(F:Nat->AV):Nat->List MA->List (Nat × Nat)->List MA->Prop
 | _,[],_,[]=>True
 | i,.val _ _::A,_::pl,.val _ _::B=>iu u F (i+1) A pl B
 | i,.mut ag cs::A,p::pl,.mut a out::B=>(a=ag/\match F p.1 with|.H _ xs=>P8 (u i) 0 cs (xs.drop p.2) out|_=>False)/\iu u F (i+1) A pl B
 | i,.ptr _::A,_::pl,.ptr out::B=>(match F i with|.H .box xs=>xs=out|_=>False)/\iu u F (i+1) A pl B
 | _,_,_,_=>False
inductive aR(k k':Kd)(cs cs':List C)(Q:Prop):Prop
 |mk_ (h:k=k'/\cs=cs'/\Q)
theorem aR.mk{k b:Kd}{cs a:List C}{Q:Prop}(h1:k=b)(c:cs=a)(d:Q):aR k b cs a Q:=by refine .mk_ ?_;exact⟨h1,c,d⟩
theorem CG:type_of% @aR.mk:=@aR.mk
theorem aR.out{k b:Kd}{cs a:List C}{Q:Prop}(h:aR k b cs a Q):k=b/\cs=a/\Q:=by obtain⟨h⟩:=h;exact h
def PL(TE:Nat->Option TI)(d:List ResultVar)(k:Kd)(rcs:List C)(u:Nat->Nat->Value)(A B:List MA)(a:List (Nat × Nat)):Exit->(Nat->AV)->Prop:=λe F=>
 match e with
 | .normal=>resA TE F d (sles (BI 0 A a)) λb c=>aR (jS b) k c rcs (iu u F 0 A a B)
 | .ret=>resA TE F d (sles (BI 0 A a)) λb c=>aR (jS b) k c rcs (iu u F 0 A a B)
 | _=>False
section
variable{P:Program}{w0 w w1:World}{M S0 S:af}{N:fk}{φ:Nat->af}{F:Nat->AV}{a:Act}{TE:Nat->Option TI}
theorem eL.tag{Y:af}{c:C}{v:Value}(h:eL w S Y c v):eL w S Y (Qc c v) v:=by
 cases h with
 | nil _ o a B=>cases o with
  | own=>exact .nil _ _ _ rfl
  | _=>exact .nil _ _ _ B
 | own _ o g k n l e u f B D E i p t K L M y=>cases o with
  | own=>exact .own _ _ g k n l e u f rfl D E i p t K L M y
  | V=>exact B.elim
  | tag z=>exact .own _ _ g k n l e u f B D E i p t K L M y
 | v _ x F=>exact .v _ _ F
 | x _ u F=>exact .x _ _ F
 | z _ a=>exact .z _ _
 | V _ g G k n l e u D E i N y=>exact .V _ g G k n l e u D E i N y
 | m _ b d O j t H P J q=>exact .m _ b d O j t H P J q
 | it _ r b since Q d seen j cur left t R H q y J T A=>exact .it _ r b since Q d seen j cur left t R H q y J T A
theorem eL.untag{Y:af}{z v:Value}{rows:List (List C)}(h:eL w S Y (.s (.tag z) rows) v):v=z/\eL w S Y (.s .own rows) v:=by
 cases h with
 | nil _ o a d=>exact⟨Eq.symm d,.nil _ _ _ trivial⟩
 | own _ o g k n e rows u f d i j b c l p q r t=>exact⟨Eq.symm d,.own _ _ g k n e rows u f trivial i j b c l p q r t⟩
theorem oL(u:Nat->Value):∀(j:Nat)(cs:List C),(y9 u j cs).length=cs.length
 | _,[]=>rfl
 | j,c::cs=>by simp[y9,oL u (j+1) cs]
theorem E2(u:Nat->Value):∀(a:Nat)(cs:List C)(j:Nat),(y9 u a cs)[j]? = (cs[j]?).map λc=>Qc c (u (a+j))
 | _,[],j=>by simp[y9]
 | a,c::cs,0=>by simp[y9]
 | a,c::cs,j+1=>by simp only[y9,List.getElem?_cons_succ];rw[E2 u (a+1) cs j,show a+1+j=a+(j+1) by omega]
theorem dc.tag{Y:af}{cs:List C}{u:Nat->Value}(h:dc w S Y cs u):dc w S Y (y9 u 0 cs) u:=by
 obtain⟨f,e,g,i⟩:=h;refine⟨f,λj c a=>?_,λj a=>g j (by rwa [oL]at a),λj k a b=>i j k (by rwa [oL]at a) (by rwa [oL]at b)⟩;rw[E2,X5]at a;cases d:cs[j]? with
 | none=>rw[d]at a;cases a
 | some l=>
  rw[d]at a;simp only[V4,X0]at a;subst a;exact(e j l d).tag
def celF(v:Value)(j:Nat):Value:=v.cells.toList.getD j undef
theorem bX.celF{Y:af}{ag:Option Nat}{cs:List C}{v:Value}(h:bX w S Y ag cs v):cs.length=ag.getD 1/\v=mkv ag (celF v)/\dc w S Y cs (celF v):=by
 obtain⟨b,u,c,d⟩:=h;have g:=pA (ag:=ag) (u:=u) (λe=>by subst e;exact d.one (by simp at b;omega));have f:∀j,j<ag.getD 1->Ab.celF v j=u j:=λj a=>by
  unfold Ab.celF;rw[c,g];simp[List.getD,a]
 exact⟨b,c.trans (iw λj a=>(f j a).symm),d.congr λj a=>f j ω⟩
def P5(u:Nat->Nat->Value)(i:Nat):MA->AV
 | .val a cs=>.H (l8 a) cs
 | .mut a cs=>.H (l8 a) (y9 (u i) 0 cs)
 | .ptr cs=>.H .box cs
theorem zq{u:Nat->Nat->Value} : ∀{A:List MA}{vs:List Value}{V:Nat->af}(i:Nat),MM w S V A vs->∀t,(lay (wL u i A) t=.dead)\/(∃m v,i<=t/\vs[t - i]? = some v/\A[t - i]? = some m/\lay (wL u i A) t=P5 u t m/\pR w S (V (t - i)) m v)
 | [],_,_,i,_,t=>.inl rfl
 | m::A,[],_,i,h,t=>h.elim
 | m::A,v::vs,V,i,h,t=>by
  have c:lay (wL u i (m::A)) t=bif Nat.beq t i then P5 u i m else lay (wL u (i+1) A) t:=by cases m<;>rfl
  rw[c];cases a:Nat.beq t i with
  | true=>
   have:=W1 a;subst this;exact .inr ⟨m,v,X2 _,by simp,by simp,rfl,by rw[Nat.sub_self];exact h.1⟩
  | false=>
   have d:t≠i:=λe=>by subst e;rw[Nat.beq_refl]at a;cases a
   rcases zq (i+1) h.2 t with b|⟨f,g,b,j,k,l,n⟩
   ·exact .inl b
   refine .inr ⟨f,g,ω,?_,?_,l,?_⟩
   ·rw[show t - i=(t - (i+1))+1 by omega];simpa using j
   ·rw[show t - i=(t - (i+1))+1 by omega];simpa using k
   rw[show t - i=(t - (i+1))+1 by omega];exact n
theorem G3:∀{A:List MA}{vs:List Value}{V:Nat->af},MM w S V A vs->A.length=vs.length
 | [],[],_,_=>rfl
 | _::_,_::_,_,h=>by simp[G3 h.2]
 | [],_::_,_,h=>h.elim
 | _::_,[],_,h=>h.elim
theorem G6{p:Nat->Value} : ∀{A:List MA}{i:Nat}{q:Nat × Value},q∈G7 p i A->i<=q.1/\q.1<i+A.length/\q.2=p q.1
 | [],_,_,h=>by simp[G7]at h
 | m::A,i,q,h=>by
  have a:q∈G7 p (i+1) A->i<=q.1/\q.1<i+(m::A).length/\q.2=p q.1:=λh=>by
   obtain⟨c,d,b⟩:=G6 h;exact⟨ω,by simp;omega,b⟩
  cases m with
  | ptr e=>
   rcases List.mem_cons.1 h with rfl|h
   ·exact⟨X2 _,by simp,rfl⟩
   exact a h
  | val=>exact a h
  | «mut»=>exact a h
theorem G5{p:Nat->Value} : ∀{A:List MA}{i n:Nat}{cs:List C},A[n]? = some (.ptr cs)->(i+n,p (i+n))∈G7 p i A
 | [],_,n,_,h=>by simp at h
 | m::A,i,0,cs,h=>by simp at h;subst h;simp[G7]
 | m::A,i,n+1,cs,h=>by
  have a:=G5 (p:=p) (i:=i+1) (show A[n]? = some (.ptr cs) by simpa using h);rw[show i+1+n=i+(n+1) by omega]at a;cases m with
  | ptr cs=>exact W4 _ a
  | val=>exact a
  | «mut»=>exact a
def PI(φ:Nat->af):Option (Option Nat)->af
 | some (some t)=>φ t
 | _=>NO
theorem BE{u:Nat->Value} : ∀{a:Nat}{cs xs b:List C},P8 u a cs xs b->cs.length=b.length/\∀(j:Nat)(c o:C),cs[j]? = some c->b[j]? = some o->∃y,(dP c=true->xs[j]? = some y)/\Rf (u (a+j)) c y o
 | _,[],xs,b,h=>by simp only[P8]at h;subst h;exact⟨rfl,λj c o h=>by simp at h⟩
 | _,_::_,[],_,h=>by simp only[P8]at h
 | _,_::_,_::_,[],h=>by simp only[P8]at h
 | a,p::cs,f::xs,q::b,h=>by
  simp only[P8]at h;obtain⟨g,i⟩:=BE h.2;refine⟨by simp[g],λj c o d e=>?_⟩;cases j with
  | zero=>simp at d e;subst d e;exact⟨f,λ_=>rfl,h.1⟩
  | succ j=>
   obtain⟨y,k,l⟩:=i j c o (by simpa using d) (by simpa using e);exact⟨y,λn=>by simpa using k n,by rw[show a+(j+1)=a+1+j by omega];exact l⟩
theorem LO{S' Y F:af}{u L:Nat->Value}{cs xs G:List C}{off:Nat}(g:bn S w w1)(n:∀b o,S b o->S' b o)(h:dc w S Y cs u)(h':dc w1 S' F xs L)(i:P8 u 0 cs (xs.drop off) G):dc w1 S' F G u:=by
 obtain⟨f,M,U,V⟩:=h;obtain⟨H,r,t,A⟩:=h';obtain⟨W,N⟩:=BE i;refine⟨λj b o=>off+j<xs.length/\H (off+j) b o,λj c q=>?_,λj q b o i=>t _ i.1 b o i.2,λj X q O P b o i p=>A _ _ i.1 p.1 ω b o i.2 p.2⟩;have Q:=(C2.1 q).1;have k:cs[j]? = some cs[j]:=Z1 ω;obtain⟨y,l,a⟩:=N j _ c k q;rw[X5]at a;have d:=M j _ k;generalize cs[j]=B at k a d l;have keep:dP B=false->c=B->eL w1 S' (λb o=>off+j<xs.length/\H (off+j) b o) c (u j):=λR e=>by
  subst e;exact((d.bare (F':=NO) R).keep g (λ_ _ h=>h.elim)).mono n (λ_ _ h=>h.elim)
 cases B with
 | v Z=>exact keep rfl a
 | x=>exact keep rfl a
 | z=>exact keep rfl a
 | m es=>exact a.elim
 | it=>exact a.elim
 | s o J=>
  cases o with
  | V=>exact keep rfl a
  | tag z=>exact a.elim
  | own=>
   have l:=l rfl;rw[List.getElem?_drop]at l;have D:=(C2.1 l).1;simp only[Rf]at a;split at a
   case h_2=>exact a.elim
   rename_i v' E;obtain⟨rfl,rfl⟩:=a;obtain⟨T,K⟩:=(r _ _ l).untag;rw[T]at K;exact K.mono (λ_ _ h=>h) (λb o h=>⟨D,h⟩)
theorem bk.backs{E:World}{S':af}{u:Nat->Nat->Value}(h:bk w0 M S0 N S' φ F a E)(e:bn S w E)(f:∀b o,S b o->S' b o):∀{A:List MA}{g:List (Nat × Nat)}{B:List MA}{vs:List Value}{V:Nat->af}{i:Nat},MM w S V A vs->
  (∀j v,vs[j]? = some v->u (i+j)=celF v)->(∀j v cs,vs[j]? = some v->A[j]? = some (.ptr cs)->tvs a (i+j)=v)->iu u F i A g B->Eb E S' (λn=>PI φ (BI i A g)[n]?) B vs
 | [],g,B,vs,V,i,l,q,r,c=>by
  cases vs with
  | cons _ _=>exact l.elim
  | nil=>cases B with
   | nil=>trivial
   | cons _ _=>simp only[iu]at c
 | m::A,[],B,vs,V,i,l,q,r,c=>by cases m<;>simp only[iu]at c
 | m::A,p::g,[],vs,V,i,l,q,r,c=>by cases m<;>simp only[iu]at c
 | m::A,p::g,G::B,[],V,i,l,q,r,c=>l.elim
 | m::A,p::g,G::B,v::vs,V,i,l,q,r,c=>by
  have next:iu u F (i+1) A g B->Eb E S' (λn=>PI φ (BI (i+1) A g)[n]?) B vs:=λc=>
   bk.backs h e f l.2 (λj v H=>by rw[show i+1+j=i+(j+1) by omega];exact q (j+1) v (by simpa using H))
    (λj v cs H U=>by rw[show i+1+j=i+(j+1) by omega];exact r (j+1) v cs (by simpa using H) (by simpa using U)) c
  cases m with
  | val W cs=>
   cases G with
   | val C X=>simp only[iu]at c;exact⟨trivial,next c⟩
   | ptr=>simp only[iu]at c
   | «mut»=>simp only[iu]at c
  | «mut» W cs=>
   cases G with
   | val=>simp only[iu]at c
   | ptr=>simp only[iu]at c
   | «mut» C out=>
    simp only[iu]at c;obtain⟨⟨rfl,d⟩,J⟩:=c;refine⟨?_,next J⟩;have D:=bX.celF (show bX w S (V 0) C cs v from l.1);have K:u i=celF v:=q 0 v (by simp);have t:=h.slot p.1;cases y:F p.1 with
    | H k xs=>
     rw[y]at d t;simp only at d;rw[K]at d;obtain⟨P,Y,Q,L,R,T,O⟩:=t;refine⟨by rw[<-(BE d).1];exact D.1,celF v,D.2.1,?_⟩;exact(LO e f D.2.2 O d).mono (λ_ _ h=>h) (λb o c=>by simpa[BI,PI] using L b o c)
    | _=>rw[y]at d;exact d.elim
  | ptr cs=>
   cases G with
   | val=>simp only[iu]at c
   | «mut»=>simp only[iu]at c
   | ptr out=>
    simp only[iu]at c;refine⟨?_,next c.2⟩;have D:tvs a i=v:=r 0 v cs (by simp) (by simp);have t:=h.slot i;cases y:F i with
    | H k xs=>
     cases k with
     | box=>
      rw[y]at c t;have:=c.1;simp only at this;subst this;rw[D]at t;obtain⟨P,Y,Q,L,R,T,O⟩:=t;exact⟨P,Y,λb o c=>by simpa[BI,PI] using Q b o c,λb o c=>by simpa[BI,PI] using L b o c,R,T,O⟩
     | _=>rw[y]at c;exact c.1.elim
    | _=>rw[y]at c;exact c.1.elim
theorem th:∀{l:List (Option Nat)},FK l=true->∀(i a t c:Nat),i≠a->l[i]? = some (some t)->l[a]? = some (some c)->t≠c
 | [],_,i,a,t,c,_,h,_=>by simp at h
 | none::l,b,i,a,t,c,f,h,d=>by
  cases i with
  | zero=>simp at h
  | succ i=>cases a with
   | zero=>simp at d
   | succ a=>exact th (l:=l) b i a t c ω (by simpa using h) (by simpa using d)
 | some j::l,b,i,a,t,c,f,h,d=>by
  simp only[FK,I0]at b;have g:∀(n s:Nat),l[n]? = some (some s)->j≠s:=λn s k e=>by
   have:=W3.1 b.1 _ (V1 k);simp only[Bool.not_eq_true']at this;rw[e,Nat.beq_refl]at this;cases this
  cases i with
  | zero=>
   simp at h;subst h;cases a with
   | zero=>exact absurd rfl f
   | succ a=>exact g a c (by simpa using d)
  | succ i=>cases a with
   | zero=>simp at d;subst d;exact λe=>g i t (by simpa using h) e.symm
   | succ a=>exact th b.2 i a t c ω (by simpa using h) (by simpa using d)
theorem vL:∀{l:List (Option Nat)}{i t:Nat},l[i]? = some (some t)->t∈sles l
 | [],i,t,h=>by simp at h
 | none::l,i,t,h=>by
  cases i with
  | zero=>simp at h
  | succ i=>exact vL (l:=l) (i:=i) (by simpa using h)
 | some a::l,i,t,h=>by
  cases i with
  | zero=>simp at h;subst h;simp[sles]
  | succ i=>exact W4 _ (vL (l:=l) (i:=i) (by simpa using h))
theorem xx{φ:Nat->af}{x:Option (Option Nat)}{b o:Nat}(h:PI φ x b o):∃t,x=some (some t)/\φ t b o:=by
 match x,h with
 | some (some t),h=>exact⟨t,rfl,h⟩
 | some none,h=>exact h.elim
 | none,h=>exact h.elim
theorem JG{f : Nat}{E : Func}{c : Code}{sh : Bool}{A B : List MA}{k : Kd}{rcs : List C}{mo : List (Nat × List Nat)}{n : Nat}(Q : List (Nat × Nat))(hTE : ∀t i, TE t = some i -> bL P t i)(hf : P.funcs[f]? = some E)(hn : (E.name == "runtime.NumGoroutine") = false)(a:E.body=some c){ck:Nat->Array Oper->Bool}{D:fk->Nat->Array Oper->((Nat->AV)->Prop)->(Nat->AV)->Prop}(hD:∀N,xt P N ck (D N))(hc:gd ck c=true)(hN:A.length+(E.ntmps - A.length)=n)(hok:FK (BI 0 A Q)=true)(hsh:sh=true\/gV rcs)(hp:∀(u:Nat->Nat->Value)(p:Nat->Value),aw P TE ⟨n,G7 p 0 A,mo⟩ (D ⟨n,G7 p 0 A,mo⟩) c (PL TE E.results.toList k rcs u A B Q) (lay (wL u 0 A))):aS P f sh A B k rcs:=by
 refine⟨⟨E,hf,hn,by rw[a];rfl⟩,λw S V r hS hV hVd hA=>?_⟩;have hlen:=G3 hA;refine calls_of_wp hf a ?_
 let u:Nat->Nat->Value:=λi=>celF (r.getD i undef)
 let p:Nat->Value:=λi=>r.getD i undef
 have htv:∀t v,r[t]? = some v->tvs {tmps:=r.toArray++Array.replicate (E.ntmps - r.toArray.size) undef,defers:=[]} t=v:=λt v l=>by
  have H:=(C2.1 l).1;simp only[tvs,U5];rw[Array.getElem?_append_left (by simpa using H)];simp only[List.getElem?_toArray];rw[l];rfl
 have hst:St w (λb o=>∃i,V i b o) S ⟨n,G7 p 0 A,mo⟩ (lay (wL u 0 A)) {tmps:=r.toArray++Array.replicate (E.ntmps - r.toArray.size) undef,defers:=[]} w:=by
  refine⟨S,V,λt=>?_,hVd,λt b o h=>(hV t b o h).2,λt b o h=>⟨(hV t b o h).1,.inr ⟨t,h⟩⟩,λ_ _ h=>h,λb o h=>⟨hS b o h,.inl h⟩,Ca _ _,by simp;omega,rfl,λq hq=>?_⟩
  ·rcases zq (u:=u) 0 hA t with J|⟨m,v,-,l,h2',G,U⟩
   ·rw[J];trivial
   rw[G];rw[Nat.sub_zero]at l U;rw[htv t v l];have hu:u t=celF v:=by show celF (r.getD t undef)=_;rw[List.getD,l];rfl
   cases m with
   | val O K=>exact(bX.mono (show bX w S NO O K v from U) (λ_ _ h=>h) (λ_ _ h=>h.elim)).slot
   | «mut» O K=>
    obtain⟨e1,e2,e3⟩:=bX.celF (show bX w S (V t) O K v from U);refine bX.slot ⟨by rw[oL];exact e1,celF v,e2,?_⟩;rw[hu];exact e3.tag
   | ptr K=>exact U
  obtain⟨-,J,l⟩:=G6 hq;rw[l];have H:q.1<r.length:=ω
  refine htv _ _ ?_;show r[q.1]? = some (r.getD q.1 undef);rw[List.getD,Z1 H];rfl
 refine iM hTE (hD _) c hc _ _ _ _ w (hp u p) hst λe F' W y he hs'=>?_
 obtain⟨S',φ',h⟩:=hs';have fin:resA TE F' E.results.toList (sles (BI 0 A Q)) (λsh K=>aR (jS sh) k K rcs (iu u F' 0 A Q B))->W.defers=[]/\∃v,(results E W.tmps).run P y=.ok v y/\(∃v',Ending.returned v=.returned v'/\bV (λb o=>∃i,V i b o) w y/\∃(X:af)(Z:Nat->af)(S1:af),
     (∀b o,X b o->(∃i,V i b o)\/(b<y.heap.size/\w.heap.size<=b))/\(∀i b o,Z i b o->(∃i,V i b o)\/(b<y.heap.size/\w.heap.size<=b))/\
     (∀b o,S1 b o->(sh=true/\S b o)\/(∃i,V i b o)\/(b<y.heap.size/\w.heap.size<=b))/\
     (∀i i',i≠i'->∀b o,Z i b o->¬Z i' b o)/\(∀i b o,X b o->¬Z i b o)/\(∀b o,X b o->¬S1 b o)/\(∀i b o,Z i b o->¬S1 b o)/\
     gc y NO k rcs.length v'/\dc y S1 X rcs (cg y k v')/\Eb y (λb o=>S b o\/S1 b o) Z B r):=by
  intro hr;obtain⟨shs,K,d,u',hfin,hrun,M,hln,hL,hcells,L,hrow⟩:=h.resA hTE hr;obtain⟨rfl,rfl,R⟩:=hfin.out;refine⟨h.defers,?_⟩;have T:(results E W.tmps).run P y=.ok (if h:d.toArray.size=1 then d.toArray[0] else .tuple d.toArray) y:=by
   have e:results E W.tmps=(do let r <-E.results.mapM (DG W.tmps);pure (if h:r.size=1 then r[0] else .tuple r)):=by
    unfold results
    congr 1
   rw[e,<-Array.toArray_toList (xs:=E.results),List.mapM_toArray];simp only[Sem.run_bind,Sem.run_map,hrun,Result.andThen_ok,Sem.run_pure]
  have hex:∀t b o,φ' t b o->(∃i,V i b o)\/(b<y.heap.size/\w.heap.size<=b):=λt b o a=>(h.ex t b o a).2.elim (λh'=>.inr ⟨(h.ex t b o a).1,h'⟩) .inl
  have hsameS:bn S w y:=λb o a=>by
   have H:=hS b o a;exact⟨h.old.cel b o H (λ⟨i,hi⟩=>(hV i b o hi).2 a),h.old.fro b o H (λ⟨i,hi⟩=>(hV i b o hi).2 a)⟩
  have hm:=h.backs (u:=u) hsameS h.sub hA (λj v hj=>by show celF (r.getD (0+j) undef)=_;rw[X5,List.getD,hj];rfl) (λj v K hj hc=>by
    have:=h.par _ (G5 (p:=p) (i:=0) hc);rw[this];show r.getD (0+j) undef=v;rw[X5,List.getD,hj];rfl) R
  refine⟨_,T,_,rfl,h.old,λb o=>∃t,t∉sles (BI 0 A Q)/\φ' t b o,λi=>PI φ' (BI 0 A Q)[i]?,λb o=>(sh=true/\S' b o)\/(S' b o/\((∃i,V i b o)\/w.heap.size<=b)),λb o ⟨t,_,a⟩=>hex t b o a,λi b o a=>?_,λb o a=>?_,λi i' hne b o a g=>?_,λi b o ⟨t,ht,a⟩ g=>?_,λb o ⟨t,_,a⟩ g=>h.disS t b o a (g.elim (·.2) (·.1)),λi b o a g=>?_,?_⟩
  ·obtain⟨t,-,a⟩:=xx a
   exact hex t b o a
  ·rcases a with⟨J,l⟩|⟨J,l⟩
   ·rcases(h.sup b o l).2 with G|G|G
    ·exact .inl ⟨J,G⟩
    ·exact .inr (.inr ⟨(h.sup b o l).1,G⟩)
    exact .inr (.inl G)
   rcases l with l|l
   ·exact .inr (.inl l)
   exact .inr (.inr ⟨(h.sup b o J).1,l⟩)
  ·obtain⟨t,e1,a⟩:=xx a
   obtain⟨t',e2,g⟩:=xx g;exact h.dis t t' (th hok i i' t t' hne e1 e2) b o a g
  ·obtain⟨t',e2,g⟩:=xx g
   exact h.dis t t' (λe=>ht (by rw[e];exact vL e2)) b o a g
  ·obtain⟨t,-,a⟩:=xx a
   exact h.disS t b o a (g.elim (·.2) (·.1))
  have hk:gc y NO (jS shs) K.length (if h:d.toArray.size=1 then d.toArray[0] else .tuple d.toArray)/\dc y S' (λb o=>∃t,t∉sles (BI 0 A Q)/\φ' t b o) K (cg y (jS shs) (if h:d.toArray.size=1 then d.toArray[0] else .tuple d.toArray)):=by
   match shs,M,L,hL with
   | [],M,_,hL=>
    cases d with
    | cons _ _=>exact M.elim
    | nil=>
     have:K=[]:=I6 (by simpa[qa] using hL.symm);subst this;exact⟨⟨_,rfl,trivial,rfl⟩,dc.nil _ _ _ _⟩
   | [O],_,L,_=>
    obtain⟨v,rfl,hv⟩:=L O rfl;have:=hv.slot (F:=F') (tv:=tvs W);obtain⟨X1,Y,J,l,G,U,h5⟩:=this;refine⟨?_,h5.mono (λ_ _ h=>h) l⟩;cases O<;>exact U
   | O::ag2::sh,M,_,hL=>
    have hsz:¬d.toArray.size=1:=by
     match d,M with
     | [],M=>simp
     | [v],M=>cases O<;>cases ag2<;>exact M.2.elim
     | _::_::_,_=>simp
    rw[dif_neg hsz];refine⟨⟨_,rfl,M,hL⟩,hrow.congr λj hj=>?_⟩;simp only[cg,jS,mn,hcells];simp[List.getD,hj]
  refine⟨hk.1,?_,hm.mono λb o a=>?_⟩
  ·rcases hsh with J|J
   ·exact hk.2.mono (λb o a=>.inl ⟨J,a⟩) (λ_ _ h=>h)
   exact(hk.2.fresh J).mono (λ_ _ h=>h.elim) (λ_ _ h=>h)
  rcases(h.sup b o a).2 with G|G|G
  ·exact .inl G
  ·exact .inr (.inr ⟨a,.inr G⟩)
  exact .inr (.inr ⟨a,.inl G⟩)
 cases e with
 | normal=>exact fin he
 | ret=>exact fin he
 | _=>exact he.elim
end
abbrev I(z:Int):C:=.v (.int .i64 z)
abbrev B(b:Bool):C:=.v (.bool b)
def rI(_:dI)(z:Int):List C:=[I z]
def rB(_:dI)(b:Bool):List C:=[B b]
theorem qq(z:Int):gV (rI .own z):=⟨trivial,trivial⟩
theorem zE(b:Bool):gV (rB .own b):=⟨trivial,trivial⟩
def mI(z:Int):Prop:=-9223372036854775808<=z/\z<=9223372036854775807
def Ro(_:Bool):Prop:=True
theorem qG : Tryz.prog.follows .mixedOrders=true:=by kernel_rfl
theorem QG{n f : Nat}{mo : List (Nat × List Nat)}{a : Func}{c : Code}{sh : Bool}{A : List RA}{k : Kd}{rcs : List C}(d : Tryz.prog.funcs[f]? = some a)(e : (a.name == "runtime.NumGoroutine") = false)(g : a.body = some c){tb : List (Nat × Nat × List Nat)}(h : gd (nz tb) c = true)(i:A.length+(a.ntmps - A.length)=n)(b:sh=true\/gV rcs)(j:aw Tryz.prog TE ⟨n,[],mo⟩ (DF Tryz.prog TE ⟨n,[],mo⟩ tb) c (Pc TE a.results.toList k rcs) (lay (vb 0 A))):ar Tryz.prog f sh A k rcs:=
 J4 zQ d e g (qY zQ qG ⟨n,[],mo⟩ tb) h i rfl b j
theorem QJ{n f : Nat}{mo : List (Nat × List Nat)}{a : Func}{c : Code}{sh : Bool}{A B : List MA}{k : Kd}{rcs : List C}(b : List (Nat × Nat))(g : Tryz.prog.funcs[f]? = some a)(h : (a.name == "runtime.NumGoroutine") = false)(i : a.body = some c){tb : List (Nat × Nat × List Nat)}(j : gd (nz tb) c = true)(l:A.length+(a.ntmps - A.length)=n)(d:FK (BI 0 A b)=true)(e:sh=true\/gV rcs)(o:∀(u:Nat->Nat->Value)(p:Nat->Value),aw Tryz.prog TE ⟨n,G7 p 0 A,mo⟩ (DF Tryz.prog TE ⟨n,G7 p 0 A,mo⟩ tb) c (PL TE a.results.toList k rcs u A B b) (lay (wL u 0 A))):aS Tryz.prog f sh A B k rcs:=
 JG b zQ g h i (λN=>qY zQ qG N tb) j l d e o
theorem QC{n f t : Nat}{mo : List (Nat × List Nat)}{a : Func}{c : Code}{A : List RA}{rcs : List C}(b : Tryz.prog.funcs[f]? = some a)(d : (a.name == "runtime.NumGoroutine") = false)(e : a.body = some c){tb : List (Nat × Nat × List Nat)}(g : gd (nz tb) c = true)(h:A.length+(a.ntmps - A.length)=n)(i:a.results = #[.tmp t])(j:aw Tryz.prog TE ⟨n,[],mo⟩ (DF Tryz.prog TE ⟨n,[],mo⟩ tb) c (Q7 t rcs) (lay (vb 0 A))):qW Tryz.prog f true A .box rcs:=
 Jo zQ b d e (qY zQ qG ⟨n,[],mo⟩ tb) g h rfl i j
theorem eQ{x:Int}(h1 : -9223372036854775808<=x)(a:x<=9223372036854775807):IntKind.i64.wrap x=x:=IntWalk.i64_in x (by constructor<;>assumption)
def MJ:RA->RA->Prop
 | .val ag cs,.val ag' cs'=>ag=ag'/\cs=cs'
 | .ptr cs,.ptr cs'=>cs=cs'
 | A,a=>A=a
theorem MJ.eq{A a:RA}(h:MJ A a):A=a:=by
 unfold MJ at h;split at h
 ·obtain⟨rfl,rfl⟩:=h;rfl
 ·rw[h]
 exact h
def D2:List RA->List RA->Prop
 | [],[]=>True
 | A::As,B::Bs=>MJ A B/\D2 As Bs
 | _,_=>False
theorem D2.eq:∀{A a:List RA},D2 A a->A=a
 | [],[],_=>rfl
 | A::As,B::Bs,h=>by rw[MJ.eq h.1,D2.eq h.2]
 | [],_::_,h=>h.elim
 | _::_,[],h=>h.elim
theorem Cl.eq{P:Program}{f:Nat}{b:Bool}{A a:List RA}{K:AV->Prop}{k:Kd}{rcs:List C}(h:ar P f false a k rcs)(c:D2 A a)(d:K (.H k rcs)):Cl P f b A K:=by rw[c.eq];exact C7 h d
theorem CH:type_of% @Cl.eq:=@Cl.eq
theorem xY{n b:Nat}(h:n<=1048576)(a:b<=1000):n*b<=140737488355328:=R4 (Nat.mul_le_mul h a) (by decide)
theorem Bf.NB{a b:Bool}{X Y:Prop}(h1:a≠b->X)(c:a=b->Y):Bf (a != b) X Y:=by
 refine Bf.P (λh=>h1 ?_) (λh=>c ?_)
 ·simpa using h
 simpa using h
theorem Rw.one{a:List C}{off i k j:Nat}{K:List C->Nat->Prop}{o:dI}{rows:List (List C)}{r:List C}(h1:a[off]? = some (.s o rows))(b:rows[i]? = some r)(c:r.length=k)(d:K r j):Rw a off [(i,k,j)] K:=
 Rw.mk (r:=r) (j:=j) (by simp[cb,h1,b,c]) d
theorem CJ:type_of% @Rw.one:=@Rw.one
section
variable{α:Type}{A B:List α}
end
theorem aa{α β:Type}{f:α->β}{l:List α}{k:Nat}{x:α}(h:l[k]? = some x):(l.map f)[k]? = some (f x):=by simp[h]
def aG(o:dI)(x:List Int):List C:=[.s o (x.map (rI o))]
theorem dZ(x:List Int):ef (aG .own x)=aG .V x:=by simp[ef,aG,rI,ef]
theorem bM(x:List Int):gV (aG .own x):=⟨⟨.inl λh=>(by cases h),bh _ _ λy _=>qq y⟩,trivial⟩
def jo(x:List Int):Prop:=x.length<=9223372036854775807/\∀y∈x,mI y
def r6(x:List Int):Prop:=x.length<=1048576
def kU(o:dI)(x:List (List Int)):List C:=[.s o (x.map (aG o))]
theorem Qw(x:List (List Int)):ef (kU .own x)=kU .V x:=by simp[ef,kU,dZ,<-cr,v5]
def Aw(x:List (List Int)):Prop:=x.length<=9223372036854775807/\∀y∈x,jo y
def wq(x:List (List Int)):Prop:=x.length<=1048576/\∀y∈x,r6 y
def jY(o:dI)(x:List Bool):List C:=[.s o (x.map (rB o))]
theorem JF(x:List Bool):gV (jY .own x):=⟨⟨.inl λh=>(by cases h),bh _ _ λy _=>zE y⟩,trivial⟩
def Nc(x:List Bool):Prop:=x.length<=9223372036854775807/\∀y∈x,Ro y
def Lz(x:List Bool):Prop:=x.length<=1048576
structure aV where
 T:List (List Int)
 a5:List Bool
deriving DecidableEq,Inhabited
def aV.enc(o:dI)(x:aV):List C:=[.s o (x.T.map (aG o)),.s o (x.a5.map (rB o))]
theorem aV.enc_fz(x:aV):ef (aV.enc .own x)=aV.enc .V x:=by simp[ef,aV.enc,rB,dZ,<-cr,v5]
theorem aV.enc_fr(x:aV):gV (aV.enc .own x):=⟨⟨.inl λh=>(by cases h),bh _ _ λy _=>bM y⟩,⟨.inl λh=>(by cases h),bh _ _ λy _=>zE y⟩,trivial⟩
def aV.wf(x:aV):Prop:=Aw x.T/\Nc x.a5
def aV.sml(x:aV):Prop:=wq x.T/\Lz x.a5
structure bi where
 e:Int
 j:Int
deriving DecidableEq,Inhabited
def bi.enc(o:dI)(x:bi):List C:=[I x.e,I x.j]
theorem bi.enc_fz(x:bi):ef (bi.enc .own x)=bi.enc .V x:=by simp[ef,bi.enc]
theorem bi.enc_fr(x:bi):gV (bi.enc .own x):=⟨trivial,trivial,trivial⟩
def bi.wf(x:bi):Prop:=mI x.e/\mI x.j
def bi.sml(_:bi):Prop:=True
def wN(o:dI)(x:List bi):List C:=[.s o (x.map (bi.enc o))]
def Jd(x:List bi):Prop:=x.length<=9223372036854775807/\∀y∈x,bi.wf y
def Gh(x:List bi):Prop:=x.length<=1048576/\∀y∈x,bi.sml y
structure aI where
 J:List bi
deriving DecidableEq,Inhabited
def aI.enc(o:dI)(x:aI):List C:=[.s o (x.J.map (bi.enc o))]
theorem aI.enc_fz(x:aI):ef (aI.enc .own x)=aI.enc .V x:=by simp[ef,aI.enc,bi.enc_fz,<-cr,v5]
theorem CZ:type_of% @aI.enc_fz:=@aI.enc_fz
theorem aI.enc_fr(x:aI):gV (aI.enc .own x):=⟨⟨.inl λh=>(by cases h),bh _ _ λy _=>bi.enc_fr y⟩,trivial⟩
def aI.wf(x:aI):Prop:=Jd x.J
def aI.sml(x:aI):Prop:=Gh x.J
structure aU where
 W:aV
 R:aI
deriving DecidableEq,Inhabited
def aU.enc(o:dI)(x:aU):List C:=[.s o (x.W.T.map (aG o)),.s o (x.W.a5.map (rB o)),.s o (x.R.J.map (bi.enc o))]
theorem aU.enc_fz(x:aU):ef (aU.enc .own x)=aU.enc .V x:=by simp[ef,aU.enc,bi.enc_fz,rB,dZ,<-cr,v5]
theorem aU.enc_fr(x:aU):gV (aU.enc .own x):=⟨⟨.inl λh=>(by cases h),bh _ _ λy _=>bM y⟩,⟨.inl λh=>(by cases h),bh _ _ λy _=>zE y⟩,⟨.inl λh=>(by cases h),bh _ _ λy _=>bi.enc_fr y⟩,trivial⟩
def aU.wf(x:aU):Prop:=aV.wf x.W/\aI.wf x.R
def aU.sml(x:aU):Prop:=aV.sml x.W/\aI.sml x.R
structure ah where
 F:aU
 Calls:Int
 y:List Int
deriving DecidableEq,Inhabited
def ah.enc(o:dI)(x:ah):List C:=[.s o (x.F.W.T.map (aG o)),.s o (x.F.W.a5.map (rB o)),.s o (x.F.R.J.map (bi.enc o)),I x.Calls,.s o (x.y.map (rI o))]
theorem ah.enc_fz(x:ah):ef (ah.enc .own x)=ah.enc .V x:=by simp[ef,ah.enc,bi.enc_fz,rB,rI,dZ,<-cr,v5]
theorem CR:type_of% @ah.enc_fz:=@ah.enc_fz
theorem ah.enc_fr(x:ah):gV (ah.enc .own x):=⟨⟨.inl λh=>(by cases h),bh _ _ λy _=>bM y⟩,⟨.inl λh=>(by cases h),bh _ _ λy _=>zE y⟩,⟨.inl λh=>(by cases h),bh _ _ λy _=>bi.enc_fr y⟩,trivial,⟨.inl λh=>(by cases h),bh _ _ λy _=>qq y⟩,trivial⟩
def ah.wf(x:ah):Prop:=aU.wf x.F/\mI x.Calls/\jo x.y
def ah.sml(x:ah):Prop:=aU.sml x.F/\r6 x.y
structure aA where
 At:Int
 b0:Int
deriving DecidableEq,Inhabited
def aA.enc(o:dI)(x:aA):List C:=[I x.At,I x.b0]
theorem aA.enc_fz(x:aA):ef (aA.enc .own x)=aA.enc .V x:=by simp[ef,aA.enc]
theorem aA.enc_fr(x:aA):gV (aA.enc .own x):=⟨trivial,trivial,trivial⟩
def aA.wf(x:aA):Prop:=mI x.At/\mI x.b0
def aA.sml(_:aA):Prop:=True
def bQ(o:dI)(x:List aA):List C:=[.s o (x.map (aA.enc o))]
theorem eA(x:List aA):ef (bQ .own x)=bQ .V x:=by simp[ef,bQ,aA.enc_fz,<-cr,v5]
theorem oT(x:List aA):gV (bQ .own x):=⟨⟨.inl λh=>(by cases h),bh _ _ λy _=>aA.enc_fr y⟩,trivial⟩
def HU(x:List aA):Prop:=x.length<=9223372036854775807/\∀y∈x,aA.wf y
def jg(x:List aA):Prop:=x.length<=1048576/\∀y∈x,aA.sml y
structure ax where
 Q:Int
 a:Int
 b1:Int
deriving DecidableEq,Inhabited
def ax.enc(o:dI)(x:ax):List C:=[I x.Q,I x.a,I x.b1]
theorem ax.enc_fz(x:ax):ef (ax.enc .own x)=ax.enc .V x:=by simp[ef,ax.enc]
theorem ax.enc_fr(x:ax):gV (ax.enc .own x):=⟨trivial,trivial,trivial,trivial⟩
def ax.wf(x:ax):Prop:=mI x.Q/\mI x.a/\mI x.b1
def ax.sml(_:ax):Prop:=True
def bY(o:dI)(x:List ax):List C:=[.s o (x.map (ax.enc o))]
theorem wS(x:List ax):ef (bY .own x)=bY .V x:=by simp[ef,bY,ax.enc_fz,<-cr,v5]
theorem FX(x:List ax):gV (bY .own x):=⟨⟨.inl λh=>(by cases h),bh _ _ λy _=>ax.enc_fr y⟩,trivial⟩
def Ko(x:List ax):Prop:=x.length<=9223372036854775807/\∀y∈x,ax.wf y
def d9(x:List ax):Prop:=x.length<=1048576/\∀y∈x,ax.sml y
structure a7 where
 Q:Int
 a2:Int
 o:Int
deriving DecidableEq,Inhabited
def a7.enc(o:dI)(x:a7):List C:=[I x.Q,I x.a2,I x.o]
theorem a7.enc_fz(x:a7):ef (a7.enc .own x)=a7.enc .V x:=by simp[ef,a7.enc]
theorem a7.enc_fr(x:a7):gV (a7.enc .own x):=⟨trivial,trivial,trivial,trivial⟩
def a7.wf(x:a7):Prop:=mI x.Q/\mI x.a2/\mI x.o
def a7.sml(_:a7):Prop:=True
def bS(o:dI)(x:List a7):List C:=[.s o (x.map (a7.enc o))]
theorem Em(x:List a7):ef (bS .own x)=bS .V x:=by simp[ef,bS,a7.enc_fz,<-cr,v5]
def HF(x:List a7):Prop:=x.length<=9223372036854775807/\∀y∈x,a7.wf y
def d6(x:List a7):Prop:=x.length<=1048576/\∀y∈x,a7.sml y
structure bz where
 Id:Int
 Addr:Int
 o:Int
 a4:Int
deriving DecidableEq,Inhabited
def bz.enc(o:dI)(x:bz):List C:=[I x.Id,I x.Addr,I x.o,I x.a4]
theorem bz.enc_fz(x:bz):ef (bz.enc .own x)=bz.enc .V x:=by simp[ef,bz.enc]
theorem bz.enc_fr(x:bz):gV (bz.enc .own x):=⟨trivial,trivial,trivial,trivial,trivial⟩
def bz.wf(x:bz):Prop:=mI x.Id/\mI x.Addr/\mI x.o/\mI x.a4
def bz.sml(_:bz):Prop:=True
def mT(o:dI)(x:List bz):List C:=[.s o (x.map (bz.enc o))]
theorem J8(x:List bz):ef (mT .own x)=mT .V x:=by simp[ef,mT,bz.enc_fz,<-cr,v5]
def Nu(x:List bz):Prop:=x.length<=9223372036854775807/\∀y∈x,bz.wf y
def LU(x:List bz):Prop:=x.length<=1048576/\∀y∈x,bz.sml y
structure aD where
 b:List (List Int)
deriving DecidableEq,Inhabited
def aD.enc(o:dI)(x:aD):List C:=[.s o (x.b.map (aG o))]
theorem aD.enc_fz(x:aD):ef (aD.enc .own x)=aD.enc .V x:=by simp[ef,aD.enc,dZ,<-cr,v5]
theorem aD.enc_fr(x:aD):gV (aD.enc .own x):=⟨⟨.inl λh=>(by cases h),bh _ _ λy _=>bM y⟩,trivial⟩
def aD.wf(x:aD):Prop:=Aw x.b
def aD.sml(x:aD):Prop:=wq x.b
def o6(o:dI)(x:List aD):List C:=[.s o (x.map (aD.enc o))]
def Jg(x:List aD):Prop:=x.length<=9223372036854775807/\∀y∈x,aD.wf y
def F8(x:List aD):Prop:=x.length<=1048576/\∀y∈x,aD.sml y
structure dy where
 To:Int
 Addr:Int
deriving DecidableEq,Inhabited
def dy.enc(o:dI)(x:dy):List C:=[I x.To,I x.Addr]
theorem dy.enc_fz(x:dy):ef (dy.enc .own x)=dy.enc .V x:=by simp[ef,dy.enc]
theorem dy.enc_fr(x:dy):gV (dy.enc .own x):=⟨trivial,trivial,trivial⟩
def dy.wf(x:dy):Prop:=mI x.To/\mI x.Addr
def dy.sml(_:dy):Prop:=True
def dm(o:dI)(x:List dy):List C:=[.s o (x.map (dy.enc o))]
theorem qH(x:List dy):ef (dm .own x)=dm .V x:=by simp[ef,dm,dy.enc_fz,<-cr,v5]
theorem qK(x:List dy):gV (dm .own x):=⟨⟨.inl λh=>(by cases h),bh _ _ λy _=>dy.enc_fr y⟩,trivial⟩
def Kh(x:List dy):Prop:=x.length<=9223372036854775807/\∀y∈x,dy.wf y
def HJ(x:List dy):Prop:=x.length<=1048576/\∀y∈x,dy.sml y
def Ec(o:dI)(x:List (List dy)):List C:=[.s o (x.map (dm o))]
def HL(x:List (List dy)):Prop:=x.length<=9223372036854775807/\∀y∈x,Kh y
def Gl(x:List (List dy)):Prop:=x.length<=1048576/\∀y∈x,HJ y
structure aL where
 U:List (List dy)
 a0:List (List Int)
deriving DecidableEq,Inhabited
def aL.enc(o:dI)(x:aL):List C:=[.s o (x.U.map (dm o)),.s o (x.a0.map (aG o))]
theorem aL.enc_fz(x:aL):ef (aL.enc .own x)=aL.enc .V x:=by simp[ef,aL.enc,qH,dZ,<-cr,v5]
theorem aL.enc_fr(x:aL):gV (aL.enc .own x):=⟨⟨.inl λh=>(by cases h),bh _ _ λy _=>qK y⟩,⟨.inl λh=>(by cases h),bh _ _ λy _=>bM y⟩,trivial⟩
def aL.wf(x:aL):Prop:=HL x.U/\Aw x.a0
def aL.sml(x:aL):Prop:=Gl x.U/\wq x.a0
structure aO where
 Addr:Int
 a:Int
 b7:Int
deriving DecidableEq,Inhabited
def aO.enc(o:dI)(x:aO):List C:=[I x.Addr,I x.a,I x.b7]
theorem aO.enc_fz(x:aO):ef (aO.enc .own x)=aO.enc .V x:=by simp[ef,aO.enc]
theorem aO.enc_fr(x:aO):gV (aO.enc .own x):=⟨trivial,trivial,trivial,trivial⟩
def aO.wf(x:aO):Prop:=mI x.Addr/\mI x.a/\mI x.b7
def aO.sml(_:aO):Prop:=True
def cS(o:dI)(x:List aO):List C:=[.s o (x.map (aO.enc o))]
theorem Dg(x:List aO):ef (cS .own x)=cS .V x:=by simp[ef,cS,aO.enc_fz,<-cr,v5]
theorem ux(x:List aO):gV (cS .own x):=⟨⟨.inl λh=>(by cases h),bh _ _ λy _=>aO.enc_fr y⟩,trivial⟩
def HX(x:List aO):Prop:=x.length<=9223372036854775807/\∀y∈x,aO.wf y
def kY(x:List aO):Prop:=x.length<=1048576/\∀y∈x,aO.sml y
structure bR where
 c1:Int
 a6:List aO
deriving DecidableEq,Inhabited
def bR.enc(o:dI)(x:bR):List C:=[I x.c1,.s o (x.a6.map (aO.enc o))]
theorem bR.enc_fz(x:bR):ef (bR.enc .own x)=bR.enc .V x:=by simp[ef,bR.enc,aO.enc_fz,<-cr,v5]
theorem bR.enc_fr(x:bR):gV (bR.enc .own x):=⟨trivial,⟨.inl λh=>(by cases h),bh _ _ λy _=>aO.enc_fr y⟩,trivial⟩
def bR.wf(x:bR):Prop:=mI x.c1/\HX x.a6
def bR.sml(x:bR):Prop:=kY x.a6
structure cP where
 a3:Int
 a1:Int
 T:List Int
deriving DecidableEq,Inhabited
def cP.enc(o:dI)(x:cP):List C:=[I x.a3,I x.a1,.s o (x.T.map (rI o))]
theorem cP.enc_fz(x:cP):ef (cP.enc .own x)=cP.enc .V x:=by simp[ef,cP.enc,rI,<-cr,v5]
theorem cP.enc_fr(x:cP):gV (cP.enc .own x):=⟨trivial,trivial,⟨.inl λh=>(by cases h),bh _ _ λy _=>qq y⟩,trivial⟩
def cP.wf(x:cP):Prop:=mI x.a3/\mI x.a1/\jo x.T
def cP.sml(x:cP):Prop:=r6 x.T
structure cM where
 X:cP
 b2:Int
 d:Int
deriving DecidableEq,Inhabited
def cM.enc(o:dI)(x:cM):List C:=[I x.X.a3,I x.X.a1,.s o (x.X.T.map (rI o)),I x.b2,I x.d]
theorem cM.enc_fz(x:cM):ef (cM.enc .own x)=cM.enc .V x:=by simp[ef,cM.enc,rI,<-cr,v5]
theorem cM.enc_fr(x:cM):gV (cM.enc .own x):=⟨trivial,trivial,⟨.inl λh=>(by cases h),bh _ _ λy _=>qq y⟩,trivial,trivial,trivial⟩
def cM.wf(x:cM):Prop:=cP.wf x.X/\mI x.b2/\mI x.d
def cM.sml(x:cM):Prop:=cP.sml x.X
structure ab where
 G:ah
 w:List aA
 K:List ax
 M:List a7
 O:List bz
 S:List aD
 q:aL
 a9:bR
 c0:Int
 b3:Int
 c3:Int
 d:Int
 u:Bool
 Z:cM
deriving DecidableEq,Inhabited
def ab.enc(o:dI)(x:ab):List C:=[.s o (x.G.F.W.T.map (aG o)),.s o (x.G.F.W.a5.map (rB o)),.s o (x.G.F.R.J.map (bi.enc o)),I x.G.Calls,.s o (x.G.y.map (rI o)),.s o (x.w.map (aA.enc o)),.s o (x.K.map (ax.enc o)),.s o (x.M.map (a7.enc o)),.s o (x.O.map (bz.enc o)),.s o (x.S.map (aD.enc o)),.s o (x.q.U.map (dm o)),.s o (x.q.a0.map (aG o)),I x.a9.c1,.s o (x.a9.a6.map (aO.enc o)),I x.c0,I x.b3,I x.c3,I x.d,B x.u,I x.Z.X.a3,I x.Z.X.a1,.s o (x.Z.X.T.map (rI o)),I x.Z.b2,I x.Z.d]
theorem ab.enc_fz(x:ab):ef (ab.enc .own x)=ab.enc .V x:=by simp[ef,ab.enc,aD.enc_fz,bi.enc_fz,a7.enc_fz,bz.enc_fz,aA.enc_fz,ax.enc_fz,aO.enc_fz,rB,qH,rI,dZ,<-cr,v5]
theorem ab.enc_fr(x:ab):gV (ab.enc .own x):=⟨⟨.inl λh=>(by cases h),bh _ _ λy _=>bM y⟩,⟨.inl λh=>(by cases h),bh _ _ λy _=>zE y⟩,⟨.inl λh=>(by cases h),bh _ _ λy _=>bi.enc_fr y⟩,trivial,⟨.inl λh=>(by cases h),bh _ _ λy _=>qq y⟩,⟨.inl λh=>(by cases h),bh _ _ λy _=>aA.enc_fr y⟩,⟨.inl λh=>(by cases h),bh _ _ λy _=>ax.enc_fr y⟩,⟨.inl λh=>(by cases h),bh _ _ λy _=>a7.enc_fr y⟩,⟨.inl λh=>(by cases h),bh _ _ λy _=>bz.enc_fr y⟩,⟨.inl λh=>(by cases h),bh _ _ λy _=>aD.enc_fr y⟩,⟨.inl λh=>(by cases h),bh _ _ λy _=>qK y⟩,⟨.inl λh=>(by cases h),bh _ _ λy _=>bM y⟩,trivial,⟨.inl λh=>(by cases h),bh _ _ λy _=>aO.enc_fr y⟩,trivial,trivial,trivial,trivial,trivial,trivial,trivial,⟨.inl λh=>(by cases h),bh _ _ λy _=>qq y⟩,trivial,trivial,trivial⟩
def ab.wf(x:ab):Prop:=ah.wf x.G/\HU x.w/\Ko x.K/\HF x.M/\Nu x.O/\Jg x.S/\aL.wf x.q/\bR.wf x.a9/\mI x.c0/\mI x.b3/\mI x.c3/\mI x.d/\Ro x.u/\cM.wf x.Z
def ab.sml(x:ab):Prop:=ah.sml x.G/\jg x.w/\d9 x.K/\d6 x.M/\LU x.O/\F8 x.S/\aL.sml x.q/\bR.sml x.a9/\cM.sml x.Z
structure jj where
 b6:Int
 c4:Int
 e0:Int
 c6:Int
deriving DecidableEq,Inhabited
def jj.enc(o:dI)(x:jj):List C:=[I x.b6,I x.c4,I x.e0,I x.c6]
theorem jj.enc_fr(x:jj):gV (jj.enc .own x):=⟨trivial,trivial,trivial,trivial,trivial⟩
structure Rk where
 Id:Int
 o:Int
 Sum:Int
deriving DecidableEq,Inhabited
structure b9 where
 Id:Int
 T:List Int
deriving DecidableEq,Inhabited
def b9.enc(o:dI)(x:b9):List C:=[I x.Id,.s o (x.T.map (rI o))]
theorem b9.enc_fz(x:b9):ef (b9.enc .own x)=b9.enc .V x:=by simp[ef,b9.enc,rI,<-cr,v5]
theorem b9.enc_fr(x:b9):gV (b9.enc .own x):=⟨trivial,⟨.inl λh=>(by cases h),bh _ _ λy _=>qq y⟩,trivial⟩
def b9.sml(x:b9):Prop:=r6 x.T
def Ex(x:List b9):Prop:=x.length<=1048576/\∀y∈x,b9.sml y
structure ay where
 d:Int
 O:List b9
deriving DecidableEq,Inhabited
def ay.enc(o:dI)(x:ay):List C:=[I x.d,.s o (x.O.map (b9.enc o))]
theorem ay.enc_fz(x:ay):ef (ay.enc .own x)=ay.enc .V x:=by simp[ef,ay.enc,b9.enc_fz,<-cr,v5]
theorem Cb:type_of% @ay.enc_fz:=@ay.enc_fz
theorem ay.enc_fr(x:ay):gV (ay.enc .own x):=⟨trivial,⟨.inl λh=>(by cases h),bh _ _ λy _=>b9.enc_fr y⟩,trivial⟩
def ay.sml(x:ay):Prop:=Ex x.O
structure bo where
 Y:ab
 b5:ay
deriving DecidableEq,Inhabited
def bo.enc(o:dI)(x:bo):List C:=[.s o (x.Y.G.F.W.T.map (aG o)),.s o (x.Y.G.F.W.a5.map (rB o)),.s o (x.Y.G.F.R.J.map (bi.enc o)),I x.Y.G.Calls,.s o (x.Y.G.y.map (rI o)),.s o (x.Y.w.map (aA.enc o)),.s o (x.Y.K.map (ax.enc o)),.s o (x.Y.M.map (a7.enc o)),.s o (x.Y.O.map (bz.enc o)),.s o (x.Y.S.map (aD.enc o)),.s o (x.Y.q.U.map (dm o)),.s o (x.Y.q.a0.map (aG o)),I x.Y.a9.c1,.s o (x.Y.a9.a6.map (aO.enc o)),I x.Y.c0,I x.Y.b3,I x.Y.c3,I x.Y.d,B x.Y.u,I x.Y.Z.X.a3,I x.Y.Z.X.a1,.s o (x.Y.Z.X.T.map (rI o)),I x.Y.Z.b2,I x.Y.Z.d,I x.b5.d,.s o (x.b5.O.map (b9.enc o))]
theorem bo.enc_fr(x:bo):gV (bo.enc .own x):=⟨⟨.inl λh=>(by cases h),bh _ _ λy _=>bM y⟩,⟨.inl λh=>(by cases h),bh _ _ λy _=>zE y⟩,⟨.inl λh=>(by cases h),bh _ _ λy _=>bi.enc_fr y⟩,trivial,⟨.inl λh=>(by cases h),bh _ _ λy _=>qq y⟩,⟨.inl λh=>(by cases h),bh _ _ λy _=>aA.enc_fr y⟩,⟨.inl λh=>(by cases h),bh _ _ λy _=>ax.enc_fr y⟩,⟨.inl λh=>(by cases h),bh _ _ λy _=>a7.enc_fr y⟩,⟨.inl λh=>(by cases h),bh _ _ λy _=>bz.enc_fr y⟩,⟨.inl λh=>(by cases h),bh _ _ λy _=>aD.enc_fr y⟩,⟨.inl λh=>(by cases h),bh _ _ λy _=>qK y⟩,⟨.inl λh=>(by cases h),bh _ _ λy _=>bM y⟩,trivial,⟨.inl λh=>(by cases h),bh _ _ λy _=>aO.enc_fr y⟩,trivial,trivial,trivial,trivial,trivial,trivial,trivial,⟨.inl λh=>(by cases h),bh _ _ λy _=>qq y⟩,trivial,trivial,trivial,⟨.inl λh=>(by cases h),bh _ _ λy _=>b9.enc_fr y⟩,trivial⟩
structure jB where
 a2:Int
 c8:Int
 W:Int
 d1:Int
 d2:Int
 c9:Int
 c5:Int
 d0:Int
deriving DecidableEq,Inhabited
def jB.enc(o:dI)(x:jB):List C:=[I x.a2,I x.c8,I x.W,I x.d1,I x.d2,I x.c9,I x.c5,I x.d0]
theorem jB.enc_fr(x:jB):gV (jB.enc .own x):=⟨trivial,trivial,trivial,trivial,trivial,trivial,trivial,trivial,trivial⟩
theorem Lm{α β:Type}{f:α->β}{l:List α}{K:Nat->Prop}(h:K l.length):Ln (l.map f).length K:=Ln.mk (Z0 ..) h
theorem Wm{z:Int}{K:Int->Prop}(h : -9223372036854775808<=z/\z<=9223372036854775807)(a:K z):Wr .i64 z K:=CM (eQ h.1 h.2) a
theorem dT{p:Prop}[Decidable p]{X Y:Prop}(h:p)(a:p->X):Bf (decide p) X Y:=.D a λe=>absurd h e
theorem dF{p:Prop}[Decidable p]{X Y:Prop}(h:¬p)(a:¬p->Y):Bf (decide p) X Y:=.D (λe=>absurd e h) a
theorem nT{a b:Int}{X Y:Prop}(h:a≠b)(c:a≠b->X):Bf (a != b) X Y:=.N c λe=>absurd e h
theorem nF{a b:Int}{X Y:Prop}(h:a=b)(c:a=b->Y):Bf (a != b) X Y:=.N (λe=>absurd h e) c
theorem eT{a b:Int}{X Y:Prop}(h:a=b)(c:a=b->X):Bf (a == b) X Y:=.E c λe=>absurd h e
theorem eF{a b:Int}{X Y:Prop}(h:a≠b)(c:a≠b->Y):Bf (a == b) X Y:=.E (λe=>absurd e h) c
theorem Bn{b:Bool}{X Y:Prop}(h:Bf b Y X):Bf (!b) X Y:=.not h
theorem Bt{X Y:Prop}(h:X):Bf true X Y:=.t rfl h
theorem Bu{X Y:Prop}(h:Y):Bf false X Y:=.f rfl h
theorem Fm{k b:Kd}{cs a:List C}(h1:k=b)(h:cs=a):kg k b cs a:=.mk h1 h
theorem dV{p:Prop}[Decidable p]{X Y:Prop}(h:p)(a:X):Bf (decide p) X Y:=.D (λ_=>a) λe=>absurd h e
theorem dW{p:Prop}[Decidable p]{X Y:Prop}(h:¬p)(a:Y):Bf (decide p) X Y:=.D (λe=>absurd e h) λ_=>a
theorem nV{a b:Int}{X Y:Prop}(h:a≠b)(c:X):Bf (a != b) X Y:=.N (λ_=>c) λe=>absurd e h
theorem nW{a b:Int}{X Y:Prop}(h:a=b)(c:Y):Bf (a != b) X Y:=.N (λe=>absurd h e) λ_=>c
theorem eV{a b:Int}{X Y:Prop}(h:a=b)(c:X):Bf (a == b) X Y:=.E (λ_=>c) λe=>absurd h e
theorem eW{a b:Int}{X Y:Prop}(h:a≠b)(c:Y):Bf (a == b) X Y:=.E (λe=>absurd e h) λ_=>c
structure PU(Y:Prop):Prop where
 out:Y
theorem gO{X Y:Prop}(y:Y)(h:PU Y->X:=by intro y;(conv=>whnf);(first|with_reducible (first|refine Lm ?_|refine Wm ω ?_|refine Bn ?_|refine Fm rfl ?_)|refine Bt ?_|refine Bu ?_|fail);exact y.out):X:=h ⟨y⟩
theorem gD{X Y:Prop}(y:Y)(h:PU Y->X:=by intro y;(conv=>whnf);(first|with_reducible (first|refine Lm ?_|refine Wm ω ?_|refine dV ω ?_|refine dW ω ?_|refine Bn ?_|refine Fm rfl ?_)|refine Bt ?_|refine Bu ?_|fail);exact y.out):X:=h ⟨y⟩
theorem gA{X Y:Prop}(y:Y)(h:PU Y->X:=by intro y;(conv=>whnf);(first|with_reducible (first|refine Lm ?_|refine Wm ω ?_|refine dV ω ?_|refine dW ω ?_|refine nV ω ?_|refine nW ω ?_|refine eV ω ?_|refine eW ω ?_|refine Bn ?_|refine Fm rfl ?_)|refine Bt ?_|refine Bu ?_|fail);exact y.out):X:=h ⟨y⟩
theorem Q8{z1 z2:Int}(h:z1=z2):N0 (I z1) (I z2):=by subst h;rfl
theorem Rg(c:C):N0 c c:=(mH [c]).1
theorem wA{X:Prop}(h:X:=by repeat'(first|exact trivial|rfl|refine CL ?_ ?_)):X:=h
theorem wB{X:Prop}(h:X:=by repeat'(first|exact trivial|rfl|refine CL ?_ ?_|(exact Q8 (by first|omega|(simp only;omega)|(simp;omega))))):X:=h
theorem wC{X:Prop}(h:X:=by repeat'(first|exact trivial|rfl|exact Rg _|refine CL ?_ ?_|(exact Q8 (by first|omega|(simp only;omega)|(simp;omega))))):X:=h
theorem fO(n : Nat){f : Nat}{a : Func}{c : Code}{sh : Bool}{A : List RA}{k : Kd}{rcs : List C}(tb : List (Nat × Nat × List Nat))(d : Tryz.prog.funcs[f]? = some a)(e : a.body = some c)(g : aw Tryz.prog TE ⟨n, [], []⟩ (DF Tryz.prog TE ⟨n, [], []⟩ tb) c (Pc TE a.results.toList k rcs) (lay (vb 0 A)))(b : sh = true \/ gV rcs := by exact .inr ⟨trivial, trivial⟩)(h : (a.name == "runtime.NumGoroutine") = false := by kernel_rfl)(i : gd (nz tb) c = true := by kernel_rfl)(j : A.length + (a.ntmps - A.length) = n := by rfl) : ar Tryz.prog f sh A k rcs := QG d h e i j b g
theorem fP(n : Nat){f : Nat}{a : Func}{c : Code}{sh : Bool}{A : List RA}{k : Kd}{rcs : List C}(mo : List (Nat × List Nat))(tb : List (Nat × Nat × List Nat))(d : Tryz.prog.funcs[f]? = some a)(e : a.body = some c)(g : aw Tryz.prog TE ⟨n, [], mo⟩ (DF Tryz.prog TE ⟨n, [], mo⟩ tb) c (Pc TE a.results.toList k rcs) (lay (vb 0 A)))(b : sh = true \/ gV rcs := by exact .inr ⟨trivial, trivial⟩)(h : (a.name == "runtime.NumGoroutine") = false := by kernel_rfl)(i : gd (nz tb) c = true := by kernel_rfl)(j : A.length + (a.ntmps - A.length) = n := by rfl) : ar Tryz.prog f sh A k rcs := QG d h e i j b g
theorem fM(n : Nat){f : Nat}{a : Func}{c : Code}{sh : Bool}{A B : List MA}{k : Kd}{rcs : List C}(mo : List (Nat × List Nat))(tb : List (Nat × Nat × List Nat))(b : List (Nat × Nat))(g : Tryz.prog.funcs[f]? = some a)(h : a.body = some c)(i : ∀(u : Nat -> Nat -> Value)(p : Nat -> Value), aw Tryz.prog TE ⟨n, G7 p 0 A, mo⟩ (DF Tryz.prog TE ⟨n, G7 p 0 A, mo⟩ tb) c (PL TE a.results.toList k rcs u A B b) (lay (wL u 0 A)))(d : sh = true \/ gV rcs := by exact .inr ⟨trivial, trivial⟩)(j : (a.name == "runtime.NumGoroutine") = false := by kernel_rfl)(l : gd (nz tb) c = true := by kernel_rfl)(o : A.length + (a.ntmps - A.length) = n := by rfl)(e : FK (BI 0 A b) = true := by rfl) : aS Tryz.prog f sh A B k rcs := QJ b g j h l o e d i
section
variable{α:Type}{l:List α}{p:α->Bool}{i:Nat}{x:α}
theorem cR(h:l[i]? = some x)(a:(l.take i).all p=true)(b:p x=true):(l.take (i+1)).all p=true:=by
 rw[Y4,h,List.all_append,a];simp[b]
theorem eN(h:l[i]? = some x)(a:p x=false):l.all p=false:=by
 rw[List.all_eq_false];exact⟨x,V1 h,by simp[a]⟩
theorem gy(a:l.length<=i)(b:(l.take i).all p=true):l.all p=true:=by
 rwa [Z5 a]at b
end
theorem vF{α β:Type}{a:List α}{b:List β}{i:Nat}{x:α}{y:β}(h1:a[i]? = some x)(c:b[i]? = some y):(a.zip b)[i]? = some (x,y):=by
 rw[List.getElem?_zip_eq_some];exact⟨h1,c⟩
def nth{α:Type}[Inhabited α](xs:List α)(i:Nat):α:=xs.getD i default
theorem ao{α:Type}[Inhabited α]{xs:List α}{i:Nat}(h:i<xs.length):xs[i]? = some (nth xs i):=by
 unfold nth;rw[O2,Z1 h];rfl
theorem bj{α:Type}[Inhabited α]{xs:List α}{i:Nat}{y:α}(h:xs[i]? = some y):nth xs i=y:=by
 unfold nth;rw[O2,h];rfl
theorem am{α:Type}[Inhabited α]{xs:List α}{i:Nat}(h:i<xs.length):nth xs i∈xs:=V1 (ao h)
def cQ(n:Nat)(p:Nat->Bool):Bool:=(List.range n).all p
theorem cz{n:Nat}{p:Nat->Bool} : cQ n p=true↔∀j,j<n->p j=true:=by
 unfold cQ;simp
theorem bJ{n:Nat}{p:Nat->Bool}(h:cQ n p=true)(a:p n=true):cQ (n+1) p=true:=by
 rw[cz]at *;grind
theorem cj{n i:Nat}{p:Nat->Bool}(a:i<n)(b:p i=false):cQ n p=false:=by
 by_cases h:cQ n p=true
 ·rw[cz]at h;grind
 simpa using h
theorem dL{n i:Nat}{p:Nat->Bool}(h:cQ n p=true)(a:i<n):p i=true:=cz.1 h i a
def iy(u:Bool)(v:Int):Bool:=decide (0<=v/\v<=999)&&(u || decide (v=0))
def gM(r:List Int)(u:Bool):Bool:=decide (r.length=16)&&r.all (iy u)
def cU(f:aV):Bool:=decide (1<=f.T.length/\f.T.length<=32)&&(decide (f.a5.length=f.T.length)&&(f.T.zip f.a5).all λq=>gM q.1 q.2)
theorem iz{f:aV}{i:Nat}{r:List Int}{u:Bool}(h1:f.T[i]? = some r)(a:f.a5[i]? = some u)(b:gM r u=false):cU f=false:=by
 unfold cU;rw[eN (p:=λq=>gM q.1 q.2) (vF h1 a) b];simp
theorem rX{r:List Int}{u:Bool}{k:Nat}{v:Int}(h1:r[k]? = some v)(a:iy u v=false):gM r u=false:=by
 unfold gM;rw[eN h1 a];simp
theorem Aj{f:aV}(h:cU f=true):1<=f.T.length/\f.T.length<=32/\f.a5.length=f.T.length:=by
 unfold cU at h;simp only[I0,C0]at h;exact⟨h.1.1,h.1.2,h.2.1⟩
def kj(a:Int)(e:bi):Bool:=decide (0<=e.e/\e.e<=2/\(e.e=0->e.j=0)/\(e.e≠0->0<=e.j/\e.j<a))
def gf(t:aI)(a:Int):Bool:=cQ t.J.length (λi=>kj a (nth t.J i))&&decide (1<=t.J.length/\t.J.length<=32)
def JR(t:aI)(f:Int)(i:Nat):Bool:=decide ((nth t.J i).e≠0/\(nth t.J i).j=f)
def jI(t:aI)(f:Int)(n:Nat):List Int:=((List.range n).filter (JR t f)).map λ(i:Nat)=>(i:Int)
def pagesOn(t:aI)(f:Int):List Int:=jI t f t.J.length
theorem z7{t:aI}{f:Int}{n:Nat}(h:JR t f n=true):jI t f (n+1)=jI t f n++[(n:Int)]:=by
 unfold jI;rw[List.range_succ,List.filter_append,t5];simp[h]
theorem Ei{t:aI}{f:Int}{n:Nat}(h:JR t f n=false):jI t f (n+1)=jI t f n:=by
 unfold jI;rw[List.range_succ,List.filter_append,t5];simp[h]
theorem t7(t:aI)(f:Int)(n:Nat):(jI t f n).length<=n:=by
 unfold jI;rw[Z0];exact R4 (List.length_filter_le ..) (by simp)
def ac(t:aI)(p:Int):bi:=if 0<=p/\p<t.J.length then nth t.J p.toNat else⟨0,0⟩
def pd(m:aU)(i:Nat):Bool:=nth m.W.a5 i == decide (0<(pagesOn m.R (i:Int)).length)
def dz(m:aU):Bool:=(cU m.W&&gf m.R m.W.a5.length)&&cQ m.W.a5.length (pd m)
def a8(k:ah):Bool:=(cQ k.y.length (λi=>decide (0<=nth k.y i))&&dz k.F)&&decide (0<=k.Calls/\k.Calls<=100000/\k.y.length<=40)
def rangeIn(pages:Int)(r:aA):Bool:=decide (1<=r.b0/\r.b0<=pages/\0<=r.At/\r.At<=pages - r.b0)
def gg(pages:Int)(xs:List aA)(i:Nat):Bool:=rangeIn pages (nth xs i)&&decide (i=0\/(nth xs (i - 1)).At+(nth xs (i - 1)).b0<(nth xs i).At)
def b8(pages:Int)(xs:List aA):Bool:=cQ xs.length (gg pages xs)&&decide (1<=pages/\pages<=32)
def re(page:Int)(r:aA):Bool:=decide (r.At<=page)&&decide (page<IntKind.i64.wrap (r.At+r.b0))
def lim(k:Int):Int:=if k=0 then 65535 else if k=1 then 255 else if k=2 then 15 else if k=3 then 3 else 0
def slots(k:Int):Int:=if k=0 then 16 else if k=1 then 8 else if k=2 then 4 else if k=3 then 2 else 0
def bg(s:ax):Bool:=decide (0<=s.Q/\s.Q<=31/\0<=s.a/\s.a<=3/\0<=s.b1/\s.b1<=lim s.a)
def f8(n:Int):Int:=if 9<=n/\n<=1000 then(n+15) / 16 else 0
def bC(l:a7):Bool:=decide (9<=l.o/\l.o<=1000/\l.a2=(l.o+15) / 16/\0<=l.Q/\l.Q<=32 - l.a2)
def lpgs(l:a7)(n:Nat):List Int:=(List.range n).map λ(i:Nat)=>l.Q+i
def pgs(sp:List ax)(la:List a7):List Int:=sp.map (·.Q)++la.flatMap λl=>lpgs l l.a2.toNat
def bm(sp:List ax)(la:List a7):Bool:=(sp.all bg&&la.all bC)&&decide (pgs sp la).Nodup
def cu(s:ax)(a:Int):Bool:=bg s&&decide (16*s.Q<=a/\a<=16*s.Q+15)
def aQ(b i:Int):Bool:=decide (0<=b/\0<=i/\i<=15/\b / 2 ^ i.toNat % 2=1)
def aY(l:a7)(a:Int):Bool:=bC l&&decide (16*l.Q<=a/\a<=16*l.Q+l.o - 1)
def csz(k:Int):Int:=if 0<=k/\k<=3 then 2 ^ k.toNat else 0
def iO(s:ax)(a:Int):Int × Int:=if cu s a then((a - 16*s.Q) / csz s.a,(a - 16*s.Q) % csz s.a) else(-1,-1)
def og(i:Nat)(s:ax)(a:Int):jj:=⟨if aQ s.b1 ((a - 16*s.Q) / csz s.a) then 1 else 2,i,(a - 16*s.Q) / csz s.a,(a - 16*s.Q) % csz s.a⟩
def denotes(sp:List ax)(la:List a7)(a:Int):jj:=
 match sp.findIdx? (cu · a) with
 | some i=>og i (nth sp i) a
 | none=>match la.findIdx? (aY · a) with
  | some i=>⟨3,i,0,a - 16*(nth la i).Q⟩
  | none=>⟨0,0,0,0⟩
theorem vB{α:Type}{pr:α->Bool}{xs:List α}{i:Nat}{y:α}(a:xs[i]? = some y)(b:pr y=true)(c:∀(j:Nat)(z:α),j<i->xs[j]? = some z->pr z=false):xs.findIdx? pr=some i:=by
 obtain⟨d,rfl⟩:=C2.1 a;exact Y5.2 ⟨d,b,λj e=>by
   have:=c j _ e (Z1 ω);simp[this]⟩
theorem xj{α:Type}{pr:α->Bool}{xs:List α}{i:Nat}(d:xs.length<=i)(b:∀(j:Nat)(z:α),j<i->xs[j]? = some z->pr z=false):xs.findIdx? pr=none:=
 List.findIdx?_eq_none_iff.2 λz c=>by
  obtain⟨j,a⟩:=List.mem_iff_getElem?.1 c;exact b j z (by have:=(C2.1 a).1;omega) a
theorem d8{α:Type}{pr:α->Bool}{xs:List α}{i:Nat}{y:α}(c:xs[i]? = some y)(d:pr y=false)(e:∀(j:Nat)(z:α),j<i->xs[j]? = some z->pr z=false):∀(j:Nat)(z:α),j<i+1->xs[j]? = some z->pr z=false:=by
 intro j z f a;rcases Nat.lt_or_ge j i with b|b
 ·exact e j z b a
 obtain rfl:j=i:=ω
 rw[c]at a;cases a;exact d
def dJ{α:Type}(pr:α->Bool)(xs:List α):Int:=match xs.findIdx? pr with|some i=>(i:Nat)|none=>-1
theorem dX{α:Type}{pr:α->Bool}{xs:List α}{i:Nat}{y:α}(a:xs[i]? = some y)(b:pr y=true)(c:∀(j:Nat)(z:α),j<i->xs[j]? = some z->pr z=false):dJ pr xs=(i:Nat):=by
 unfold dJ;rw[vB a b c]
theorem gv{α:Type}{pr:α->Bool}{xs:List α}{i:Nat}(a:xs.length<=i)(b:∀(j:Nat)(z:α),j<i->xs[j]? = some z->pr z=false):dJ pr xs = -1:=by
 unfold dJ;rw[xj a b]
theorem kN{α:Type}(pr:α->Bool)(xs:List α):decide (dJ pr xs≥0)=xs.any pr:=by
 unfold dJ;cases h:xs.findIdx? pr with
 | none=>
  have:=List.findIdx?_eq_none_iff.1 h;have a:xs.any pr=false:=by rw[List.any_eq_false];intro y b;simp[this y b]
  rw[a];rfl
 | some i=>
  obtain⟨c,d,-⟩:=Y5.1 h;have a:xs.any pr=true:=V3.2 ⟨_,List.getElem_mem c,d⟩;rw[a];simp
def meshable(s t:ax):Bool:=(bg s&&bg t)&&decide (s.a=t.a/\s.Q≠t.Q/\s.b1.toNat &&& t.b1.toNat=0)
def np(n:Int)(p:dy):Bool:=decide (0<=p.To/\p.To<=n - 1/\0<=p.Addr)
def NK(z:Int):Bool:=decide (0<=z)
def gx(m:aL)(i:Nat):Bool:=(nth m.U i).all (np m.U.length)&&(nth m.a0 i).all NK
def bt(m:aL):Nat->Int
 | 0=>0
 | i+1=>bt m i+((nth m.U i).length+(nth m.a0 i).length)
def bI(m:aL):Bool:=(decide (1<=m.U.length/\m.U.length<=4/\m.a0.length=m.U.length)&&cQ m.U.length (gx m))&&decide (bt m m.U.length<=30)
def aF(m:aL):List Int:=if bI m then(m.U.flatMap λl=>l.map (·.Addr))++m.a0.flatten else []
def eD(a:Int)(y:aO):Bool:=decide (y.Addr=a)
def kv(xs:List aO)(i:Nat):Bool:=decide (0<=(nth xs i).a/\(nth xs i).a<=3/\0<=(nth xs i).Addr/\0<=(nth xs i).b7/\(i=0\/(nth xs (i - 1)).b7<=(nth xs i).b7))&&!(xs.take i).any (eD (nth xs i).Addr)
def quarCells(xs:List aO):Nat->Int
 | 0=>0
 | i+1=>quarCells xs i+csz (nth xs i).a
def fE(q:bR):Bool:=cQ q.a6.length (kv q.a6)&&decide (0<=q.c1/\q.c1<=500/\quarCells q.a6 q.a6.length<=q.c1)
def lY(xs:List Int)(i:Nat):Bool:=decide (0<=nth xs i/\nth xs i<=15/\(i=0\/nth xs (i - 1)<nth xs i))
def eH(p:cP):Bool:=cQ p.T.length (lY p.T)&&decide (0<=p.a3/\p.a3<=31/\0<=p.a1/\p.a1<=31/\p.a3≠p.a1)
def jH(j:cM):Bool:=eH j.X&&decide (0<=j.b2/\j.b2<=5/\0<=j.d/\j.d<=j.X.T.length)
def ss(j:cM):Bool:=decide (j.X.a3=0/\j.X.a1=0/\j.X.T.length=0/\j.b2=0/\j.d=0)
def aN(h:ab)(p:Int):List Int:=if(ac h.G.F.R p).e=0 then [] else pagesOn h.G.F.R (ac h.G.F.R p).j
def jX(p:Int)(s:ax):Bool:=decide (s.Q=p)
def fH(h:ab)(p:Int):Int:=dJ (jX p) h.K
def aJ(n:Int):Int:=if n<1 then -1 else if n<=1 then 0 else if n<=2 then 1 else if n<=4 then 2 else if n<=8 then 3 else -1
set_option maxRecDepth 20000
set_option maxHeartbeats 2000000
theorem aH(n lo a:Int):ar Tryz.prog 144 false [.val none [I n],.val none [I lo],.val none [I a]] .one [B (decide (lo<=n/\n<=a))]:=by
 refine fO 15 [] Tryz.func144 rfl ?_
 repeat'(first|refine gO ?_|(conv=>whnf);first|with_reducible refine Bf.D (λb=>?_) (λb=>?_))
 all_goals exact W0 (λz=>[B z]) (by simp;try omega)
theorem aP(n lo a:Int):ar Tryz.prog 60 false [.val none [I n],.val none [I lo],.val none [I a]] .one [B (decide (lo<=n/\n<=a))]:=by
 refine fO 15 [] Tryz.func60 rfl ?_
 repeat'(first|refine gO ?_|(conv=>whnf);first|with_reducible refine Bf.D (λb=>?_) (λb=>?_))
 all_goals exact W0 (λz=>[B z]) (by simp;try omega)
theorem fI(k:Int):ar Tryz.prog 246 false [.val none [I k]] .one [B (decide (0<=k/\k<=3))]:=by
 refine fO 5 [] Tryz.func246 rfl ?_
 repeat'(first|refine gO ?_|(conv=>whnf);first|refine C7 (aP k 0 3) ?_)
 rfl
theorem cJ(k:Int):ar Tryz.prog 94 false [.val none [I k]] .one [I (csz k)]:=by
 by_cases b:0<=k/\k<=3
 ·obtain rfl|rfl|rfl|rfl:k=0\/k=1\/k=2\/k=3:=ω
  all_goals
   refine fO 8 [] Tryz.func94 rfl ?_
   repeat'(first|refine gD ?_|(conv=>whnf);first|with_reducible refine Bf.D (λa=>?_) (λa=>?_)|refine C7 (fI _) ?_|refine CO (by decide) ?_|refine CM rfl ?_)
   exact W0 (λz=>[I z]) (by decide)
 refine fO 8 [] Tryz.func94 rfl ?_
 repeat'(first|refine gD ?_|(conv=>whnf);first|with_reducible refine Bf.D (λa=>?_) (λa=>?_)|refine C7 (fI _) ?_)
 exact W0 (λz=>[I z]) (by unfold csz;rw[C8 b])
theorem de(k:Int):ar Tryz.prog 375 false [.val none [I k]] .one [I (csz k)]:=by
 by_cases b:0<=k/\k<=3
 ·obtain rfl|rfl|rfl|rfl:k=0\/k=1\/k=2\/k=3:=ω
  all_goals
   refine fO 9 [] Tryz.func375 rfl ?_
   repeat'(first|refine gD ?_|(conv=>whnf);first|with_reducible refine Bf.D (λa=>?_) (λa=>?_)|refine C7 (aH _ 0 3) ?_|refine CO (by decide) ?_|refine CM rfl ?_)
   exact W0 (λz=>[I z]) (by decide)
 refine fO 9 [] Tryz.func375 rfl ?_
 repeat'(first|refine gD ?_|(conv=>whnf);first|with_reducible refine Bf.D (λa=>?_) (λa=>?_)|refine C7 (aH _ 0 3) ?_)
 exact W0 (λz=>[I z]) (by unfold csz;rw[C8 b])
theorem mC(xs:List Int)(a:Int)(j:xs.length<=9223372036854775807):ar Tryz.prog 367 false [.val none (aG .V xs),.val none [I a]] .one [B (decide (a∈xs))]:=by
 refine fO 18 [] Tryz.func367 rfl ?_
 repeat'(first|refine gO ?_|fail)
 (conv=>whnf)
 refine CF (ι:=Nat) (λi=>[(0,.H .one (aG .V xs)),(1,.H .one [I a]),(5,.H .one [I (i:Nat)])]) (λi=>i<=xs.length/\a∉xs.take i) (λi=>xs.length - i) 0 ?_ ⟨U0 _,by simp⟩ λi g=>?_
 ·exact wB
 obtain⟨g,b⟩:=g;by_cases c:i<xs.length
 ·obtain⟨y,d⟩ : ∃y,xs[i]? = some y:=⟨_,Z1 c⟩
  repeat'(first|refine gD ?_|(conv=>whnf);first|with_reducible (first|refine CD (aa d) ?_|refine Bf.E (λh=>?_) (λh=>?_)))
  ·exact W0 (λz=>[B z]) (by symm;simp;rw[<-‹y=a›];exact V1 d)
  (conv=>whnf)
  refine CE (i+1) ⟨ω,?_⟩ ω ?_
  ·rw[Y4,d]
   simp only[Option.toList_some,W2,I1,not_or];exact⟨b,λe=>‹y≠a› e.symm⟩
  exact wB
 repeat'(first|refine gD ?_|fail)
 rw[Z5 ω]at b;exact W0 (λz=>[B z]) (by symm;simpa using b)
set_option maxHeartbeats 4000000
def good(k:Int)(s:List Int)(a:Int):Prop:=0<=a/\a<=511/\a.tmod (csz k)=0/\a∉s
instance (k:Int) (s:List Int) (a:Int):Decidable (good k s a):=by unfold good;exact inferInstance
def rg(k:Int):List Int->List Int->Option (List Int)
 | s,[]=>some s
 | s,a::l=>if good k s a then rg k (s++[a]) l else none
def eM(k:Nat)(s l:List Int):Option (List Int):=if l.length<=8/\k<=3 then rg k s l else none
def gk:Nat->List Int->List (List Int)->Option (List Int)
 | _,s,[]=>some s
 | k,s,l::ls=>(eM k s l).bind λa=>gk (k+1) a ls
def bp(c:aD):Bool:=decide (c.b.length=4)&&(gk 0 [] c.b).isSome
theorem qF(k:Int):∀(a s b:List Int),rg k s (a++b)=(rg k s a).bind λc=>rg k c b
 | [],s,b=>rfl
 | x::a,s,b=>by
  simp only[List.cons_append,rg];split
  ·exact qF k a _ b
  rfl
theorem oM:∀(a:List (List Int))(k:Nat)(s:List Int)(b:List (List Int)),gk k s (a++b)=(gk k s a).bind λc=>gk (k+a.length) c b
 | [],k,s,b=>rfl
 | l::a,k,s,b=>by
  simp only[List.cons_append,gk,Option.bind_assoc,List.length_cons]
  congr 1;funext c
  rw[oM a (k+1) c b,show k+1+a.length=k+(a.length+1) by omega]
theorem GO{k:Int}{l b s:List Int}{j:Nat}{a:Int}(c:l[j]? = some a)(h:rg k b (l.take j)=some s)(d:good k s a):rg k b (l.take (j+1))=some (s++[a]):=by
 rw[Y4,c,Option.toList_some,qF,h];simp[rg,d]
theorem Ld{k:Nat}{l c s:List Int}{j:Nat}{a:Int}(d:l[j]? = some a)(h:rg k c (l.take j)=some s)(e:¬good k s a):eM k c l=none:=by
 unfold eM;split
 ·have:l=l.take j++(a::l.drop (j+1)):=by
   obtain⟨b,rfl⟩:=C2.1 d;rw[<-List.drop_eq_getElem_cons b,List.take_append_drop]
  rw[this,qF,h];simp[rg,e]
 rfl
theorem A2{k:Int} : ∀{l s b:List Int},rg k s l=some b->b.length=s.length+l.length
 | [],s,b,h=>by simp only[rg,X0]at h;subst h;simp
 | a::l,s,b,h=>by
  simp only[rg]at h;split at h
  ·have:=A2 h;simp at this |-;omega
  cases h
theorem sX{a:List (List Int)}{i:Nat}{l s:List Int}(b:a[i]? = some l)(h:gk 0 [] (a.take i)=some s):gk 0 [] (a.take (i+1))=eM i s l:=by
 have c:=(C2.1 b).1;rw[Y4,b,Option.toList_some,oM,h];simp only[Option.bind_some,gk,X5,R1,Nat.min_eq_left (Nat.le_of_lt c)];cases eM i s l<;>rfl
theorem lc{c:aD}{i:Nat}{l s:List Int}(b:c.b[i]? = some l)(h:gk 0 [] (c.b.take i)=some s)(d:eM i s l=none):bp c=false:=by
 have a:=sX b h;rw[d]at a;have e:gk 0 [] c.b=none:=by
  rw[<-List.take_append_drop (i+1) c.b,oM,a];rfl
 unfold bp;rw[e];simp
theorem BY:∀{b:List (List Int)}{k:Nat}{s a:List Int},gk k s b=some a->a.length<=s.length+8*b.length
 | [],k,s,a,h=>by simp only[gk,X0]at h;subst h;simp
 | l::b,k,s,a,h=>by
  simp only[gk]at h;unfold eM at h;split at h
  ·cases c:rg k s l with
   | none=>rw[c]at h;cases h
   | some d=>
    rw[c]at h;have e:=A2 c;have f:=BY (show gk (k+1) d b=some a from h);simp only[List.length_cons];omega
  cases h
theorem Lf{i:Nat}(h:i<=3):csz (i:Int)≠0:=by
 obtain rfl|rfl|rfl|rfl:i=0\/i=1\/i=2\/i=3:=ω
 all_goals decide
theorem cA{l:List Int} : ∀r∈l.map (rI .own),r.length=1:=by
 intro r a;obtain⟨z,-,rfl⟩:=t4.1 a;rfl
theorem mS(c:aD)(u:aD.sml c):ar Tryz.prog 229 false [.val (some 1) (aD.enc .V c)] .one [B (bp c)]:=by
 have H:=u.1;refine fO 60 [] Tryz.func229 rfl ?_
 repeat'(first|refine gO ?_|(conv=>whnf);first|with_reducible refine Bf.N (λe=>?_) (λe=>?_))
 ·exact W0 (λz=>[B z]) (by symm;unfold bp;rw[T0 ω];rfl)
 have w:c.b.length=4:=ω
 (conv=>whnf)
 refine CF (ι:=Nat × List Int) (λi=>[(1,.H .box (aD.enc .V c)),(3,.H .one (aG .own i.2)),(4,.H .one [I (i.1:Nat)])]) (λi=>i.1<=4/\gk 0 [] (c.b.take i.1)=some i.2) (λi=>4 - i.1) (0,[]) ?_ ⟨U0 _,rfl⟩ λi k=>?_
 ·exact wB
 obtain⟨i,s⟩:=i;obtain⟨k,b⟩:=k;simp only at k b |-;have g:=BY b;rw[R1]at g;simp only[List.length_nil]at g;by_cases E:i<4
 ·obtain⟨l,d⟩ : ∃l,c.b[i]? = some l:=⟨_,Z1 ω⟩
  have F:l.length<=1048576:=u.2 l (V1 d)
  repeat'(first|refine gD ?_|(conv=>whnf);first|with_reducible (first|refine CD (aa d) ?_|refine Bf.D (λe=>?_) (λe=>?_)))
  ·exact W0 (λz=>[B z]) (lc d b (by unfold eM;rw[C8 ω])).symm
  have n:l.length<=8:=ω
  (conv=>whnf)
  refine CF (ι:=Nat × List Int) (λj=>[(1,.H .box (aD.enc .V c)),(3,.H .one (aG .own j.2)),(4,.H .one [I (i:Nat)]),(5,.H .one [I (j.1:Nat)])]) (λj=>j.1<=l.length/\rg i s (l.take j.1)=some j.2) (λj=>l.length - j.1) (0,s) ?_ ⟨U0 _,rfl⟩ λj o=>?_
  ·exact wB
  obtain⟨j,p⟩:=j;obtain⟨o,a⟩:=o;simp only at o a |-;have h:=A2 a;rw[R1]at h;by_cases q:j<l.length
  ·obtain⟨y,t⟩ : ∃y,l[j]? = some y:=⟨_,Z1 q⟩
   repeat'(first|refine gD ?_|(conv=>whnf);first|with_reducible (first|refine CD (aa d) ?_|refine CD (aa t) ?_|refine Bf.D (λe=>?_) (λe=>?_)|refine Bf.N (λe=>?_) (λe=>?_))|refine C7 (aH y 0 511) ?_|refine C7 (de (i:Nat)) ?_|refine CO (Lf ω) ?_|refine CU rfl ?_|refine CH (mC p y ω) ⟨⟨rfl,dZ _⟩,⟨rfl,rfl⟩,trivial⟩ ?_|refine CT cA (λr G=>by rw[I1.1 G];rfl) (by simp[aW,dP]) (by simp;omega) (by simp only[Z0];exact xY (by simp;omega) (by decide)) rfl ?_)
   all_goals first
    | exact W0 (λz=>[B z]) (lc d b (Ld t a λ⟨J,K,L,M⟩=>by first|contradiction|omega)).symm
    | ((conv=>whnf)
       refine CE (j+1,p++[y]) ⟨(by simp only;omega),GO t a ⟨ω,ω,(by assumption),(by assumption)⟩⟩ (by simp only;omega) ?_
       (repeat'(first|exact trivial|rfl|exact CL rfl (CL (W0 (C.s dI.own) (by simp[rI])) trivial)|refine CL ?_ ?_)))
  repeat'(first|refine gD ?_|(conv=>whnf);first|with_reducible refine CD (aa d) ?_)
  (conv=>whnf)
  rw[Z5 ω]at a;refine CE (i+1,p) ⟨(by simp only;omega),(by rw[sX d b];unfold eM;rw[C9 ⟨n,ω⟩];exact a)⟩ (by simp only;omega) ?_;exact wB
 repeat'(first|refine gD ?_|fail)
 rw[Z5 ω]at b;exact W0 (λz=>[B z]) (by symm;unfold bp;rw[b,O0 w];rfl)
def fB(s:List Int):List (Int × Value):=s.map λa=>(a,.bool true)
theorem mK(a:Int):∀(s:List Int),mlook (fB s) a (.bool false)=.bool (decide (a∈s))
 | []=>by simp[fB,mlook]
 | x::s=>by
  have b:=mK a s;simp only[fB,z5,mlook]at b |-;by_cases h:x=a
  ·rw[C9 h];simp[h]
  rw[C8 h,b]
  congr 1
  simp[show ¬a=x from λe=>h e.symm]
theorem tl{a:Int} : ∀{s:List Int},a∉s->fB (s++[a])=mput (fB s) a (.bool true)
 | [],_=>rfl
 | x::s,h=>by
  simp only[List.mem_cons,not_or]at h;have b:=tl h.2;simp only[fB,List.cons_append,z5,mput]at b |-;rw[C8 λe=>h.1 e.symm,b]
theorem nG(c:aD)(u:aD.sml c):ar Tryz.prog 77 false [.val (some 1) (aD.enc .V c)] .one [B (bp c)]:=by
 have C:=u.1;refine fO 54 [] Tryz.func77 rfl ?_
 repeat'(first|refine gO ?_|fail)
 (conv=>whnf)
 refine CF (ι:=Nat × List Int) (λi=>[(1,.H .box (aD.enc .V c)),(3,.H .one [.m (fB i.2)]),(10,.H .one (kU .V c.b)),(11,.H .one [I c.b.length]),(12,.H .one [I (i.1:Nat)])]) (λi=>i.1<=c.b.length/\gk 0 [] (c.b.take i.1)=some i.2) (λi=>c.b.length - i.1) (0,[]) ?_ ⟨U0 _,rfl⟩ λi h=>?_
 ·exact wB
 obtain⟨i,s⟩:=i;obtain⟨h,b⟩:=h;simp only at h b |-;by_cases k:i<c.b.length
 ·obtain⟨l,d⟩ : ∃l,c.b[i]? = some l:=⟨_,Z1 k⟩
  have w:l.length<=1048576:=u.2 l (V1 d)
  repeat'(first|refine gD ?_|(conv=>whnf);first|with_reducible (first|refine CD (aa d) ?_|refine Bf.D (λe=>?_) (λe=>?_))|refine C7 (fI (i:Nat)) ?_)
  ·exact W0 (λz=>[B z]) (lc d b (by unfold eM;rw[C8 ω])).symm
  rotate_left
  ·exact W0 (λz=>[B z]) (lc d b (by unfold eM;rw[C8 ω])).symm
  have n:l.length<=8:=ω
  have o:i<=3:=ω
  (conv=>whnf)
  refine CF (ι:=Nat × List Int) (λj=>[(1,.H .box (aD.enc .V c)),(3,.H .one [.m (fB j.2)]),(4,.H .one [I (i:Nat)]),(10,.H .one (kU .V c.b)),(11,.H .one [I c.b.length]),(12,.H .one [I (i:Nat)]),(25,.H .one (aG .V l)),(26,.H .one [I l.length]),(27,.H .one [I (j.1:Nat)])]) (λj=>j.1<=l.length/\rg i s (l.take j.1)=some j.2) (λj=>l.length - j.1) (0,s) ?_ ⟨U0 _,rfl⟩ λj p=>?_
  ·exact wB
  obtain⟨j,q⟩:=j;obtain⟨p,a⟩:=p;simp only at p a |-;by_cases r:j<l.length
  ·obtain⟨y,t⟩ : ∃y,l[j]? = some y:=⟨_,Z1 r⟩
   repeat'(first|refine gD ?_|(conv=>whnf);first|with_reducible (first|refine CD (aa d) ?_|refine CD (aa t) ?_|refine Bf.D (λe=>?_) (λe=>?_)|refine Bf.N (λe=>?_) (λe=>?_))|refine C7 (aP y 0 511) ?_|refine C7 (cJ (i:Nat)) ?_|refine CO (Lf ω) ?_|refine CU rfl ?_|refine Ml.mk (mK y q) ?_|refine Mu.mk (tl (by assumption)) ?_)
   all_goals first
    | exact W0 (λz=>[B z]) (lc d b (Ld t a λ⟨E,F,G,H⟩=>by first|contradiction|omega)).symm
    | ((conv=>whnf)
       refine CE (j+1,q++[y]) ⟨(by simp only;omega),GO t a ⟨ω,ω,(by assumption),(by assumption)⟩⟩ (by simp only;omega) ?_
       (exact wA))
  repeat'(first|refine gD ?_|fail)
  (conv=>whnf)
  rw[Z5 ω]at a;refine CE (i+1,q) ⟨(by simp only;omega),(by rw[sX d b];unfold eM;rw[C9 ⟨n,o⟩];exact a)⟩ (by simp only;omega) ?_;exact wB
 repeat'(first|refine gD ?_|fail)
 rw[Z5 ω]at b;have g:((c.b.length:Int) == 4)=decide (c.b.length=4):=by
  by_cases g:c.b.length=4
  ·simp[g]
  rw[T0 g];simp;omega
 exact W0 (λz=>[B z]) (g.trans (by unfold bp;rw[b];simp))
def dQ:Nat->List (List Int)->Int
 | _,[]=>0
 | k,l::ls=>l.length*csz k+dQ (k+1) ls
def d5(c:aD):Int:=if bp c then dQ 0 c.b else 0
theorem nN:∀(a:List (List Int))(k:Nat)(l:List Int),dQ k (a++[l])=dQ k a+l.length*csz (k+a.length:Nat)
 | [],k,l=>by simp[dQ]
 | x::a,k,l=>by
  simp only[List.cons_append,dQ,List.length_cons];rw[nN a (k+1) l,show k+1+a.length=k+(a.length+1) by omega];omega
theorem lS{a:List (List Int)}{i:Nat}{l:List Int}(b:a[i]? = some l):dQ 0 (a.take (i+1))=dQ 0 (a.take i)+l.length*csz i:=by
 have c:=(C2.1 b).1;rw[Y4,b,Option.toList_some,nN];simp only[X5,R1,Nat.min_eq_left (Nat.le_of_lt c)]
theorem GF:∀{b:List (List Int)}{k:Nat}{s c:List Int},gk k s b=some c->∀l∈b,l.length<=8
 | [],k,s,c,h,l,a=>by simp at a
 | x::b,k,s,c,h,l,a=>by
  simp only[gk]at h;unfold eM at h;split at h
  ·rename_i e
   rcases List.mem_cons.1 a with rfl|a
   ·exact e.1
   cases d:rg k s x with
   | none=>rw[d]at h;cases h
   | some f=>rw[d]at h;exact GF (show gk (k+1) f b=some c from h) l a
  cases h
theorem lL{c:aD}(h:bp c=true):c.b.length=4/\∀l∈c.b,l.length<=8:=by
 unfold bp at h;simp only[I0,C0]at h;obtain⟨s,a⟩:=Option.isSome_iff_exists.1 h.2;exact⟨h.1,GF a⟩
theorem Kz(i:Nat):0<=csz (i:Int)/\csz (i:Int)<=8:=by
 by_cases h:i<=3
 ·obtain rfl|rfl|rfl|rfl:i=0\/i=1\/i=2\/i=3:=ω
  all_goals decide
 unfold csz;rw[C8 ω];decide
theorem Ha{n:Nat}{k:Int}(b:n<=8)(a:0<=k)(c:k<=8):0<=(n:Int)*k/\(n:Int)*k<=64:=by
 refine⟨Int.mul_nonneg ω a,?_⟩;have d:(n:Int)*k<=8*k:=Int.mul_le_mul_of_nonneg_right ω a;omega
theorem pW(f:aV)(n:aV.sml f):ar Tryz.prog 83 false [.val (some 2) (aV.enc .V f)] .one [B (cU f)]:=by
 have C:=n.1.1;have E:f.a5.length<=1048576:=n.2;refine fO 61 [] Tryz.func83 rfl ?_
 repeat'(first|refine gO ?_|(conv=>whnf);first|with_reducible (first|refine Bf.D (λa=>?_) (λa=>?_)|refine Bf.N (λa=>?_) (λa=>?_))|refine C7 (aH f.T.length 1 32) ?_)
 ·exact W0 (λz=>[B z]) (by symm;unfold cU;rw[T0 (by omega:¬(f.a5.length=f.T.length))];simp)
 rotate_left
 ·exact W0 (λz=>[B z]) (by symm;unfold cU;rw[T0 (by omega:¬(1<=f.T.length/\f.T.length<=32))];rfl)
 have h:1<=f.T.length/\f.T.length<=32:=ω
 have j:f.a5.length=f.T.length:=ω
 (conv=>whnf)
 refine CF (ι:=Nat) (λi=>[(1,.H .box (aV.enc .V f)),(3,.H .one [I (i:Nat)])]) (λi=>i<=f.T.length/\((f.T.zip f.a5).take i).all (λq=>gM q.1 q.2)=true) (λi=>f.T.length - i) 0 ?_ ⟨U0 _,rfl⟩ λi o=>?_
 ·exact wB
 obtain⟨o,t⟩:=o;by_cases l:i<f.T.length
 ·obtain⟨r,c⟩ : ∃r,f.T[i]? = some r:=⟨_,Z1 l⟩
  obtain⟨u,b⟩ : ∃u,f.a5[i]? = some u:=⟨_,Z1 ω⟩
  repeat'(first|refine gD ?_|(conv=>whnf);first|with_reducible (first|refine CD (aa c) ?_|refine Bf.N (λa=>?_) (λa=>?_)))
  ·exact W0 (λz=>[B z]) (iz c b (by unfold gM;rw[T0 ω];rfl)).symm
  have g:r.length=16:=ω
  (conv=>whnf)
  refine CF (ι:=Nat) (λk=>[(1,.H .box (aV.enc .V f)),(3,.H .one [I (i:Nat)]),(4,.H .one [I (k:Nat)])]) (λk=>k<=16/\(r.take k).all (iy u)=true) (λk=>16 - k) 0 ?_ ⟨U0 _,rfl⟩ λk w=>?_
  ·exact wB
  obtain⟨w,d⟩:=w;by_cases y:k<16
  ·obtain⟨v,e⟩ : ∃v,r[k]? = some v:=⟨_,Z1 ω⟩
   cases u with
   | true=>
    repeat'(first|refine gD ?_|(conv=>whnf);first|with_reducible (first|refine CD (aa c) ?_|refine CD (aa b) ?_|refine CD (aa e) ?_|refine Bf.D (λa=>?_) (λa=>?_)|refine Bf.N (λa=>?_) (λa=>?_))|refine C7 (aH v 0 999) ?_)
    all_goals first
     | exact W0 (λz=>[B z]) (iz c b (rX e (by first|(unfold iy;rw[T0 ω];rfl)|(unfold iy;rw[T0 (p:=v=0) ω];simp)))).symm
     | ((conv=>whnf)
        refine CE (ι:=Nat) (k+1) ⟨ω,cR e d (by unfold iy;first|(rw[O0 ω];rfl)|(rw[O0 (p:=0<=v/\v<=999) ω,O0 (p:=v=0) ω];rfl))⟩ ω ?_
        (exact wA))
   | false=>
    repeat'(first|refine gD ?_|(conv=>whnf);first|with_reducible (first|refine CD (aa c) ?_|refine CD (aa b) ?_|refine CD (aa e) ?_|refine Bf.D (λa=>?_) (λa=>?_)|refine Bf.N (λa=>?_) (λa=>?_))|refine C7 (aH v 0 999) ?_)
    all_goals first
     | exact W0 (λz=>[B z]) (iz c b (rX e (by first|(unfold iy;rw[T0 ω];rfl)|(unfold iy;rw[T0 (p:=v=0) ω];simp)))).symm
     | ((conv=>whnf)
        refine CE (ι:=Nat) (k+1) ⟨ω,cR e d (by unfold iy;first|(rw[O0 ω];rfl)|(rw[O0 (p:=0<=v/\v<=999) ω,O0 (p:=v=0) ω];rfl))⟩ ω ?_
        (exact wA))
  repeat'(first|refine gD ?_|fail)
  (conv=>whnf)
  refine CE (i+1) ⟨ω,cR (vF c b) t (by unfold gM;rw[gy ω d];simp[g])⟩ ω ?_;exact wB
 repeat'(first|refine gD ?_|fail)
 exact W0 (λz=>[B z]) (by symm;unfold cU;rw[gy (by rw[List.length_zip];omega) t];simp[h,j])
theorem qb(f:aV)(h:aV.sml f):ar Tryz.prog 254 false [.val (some 2) (aV.enc .V f)] .one [B (cU f)]:=by
 have C:=h.1.1;have E:f.a5.length<=1048576:=h.2;refine fO 55 [] Tryz.func254 rfl ?_
 repeat'(first|refine gO ?_|(conv=>whnf);first|with_reducible (first|refine Bf.D (λa=>?_) (λa=>?_)|refine Bf.N (λa=>?_) (λa=>?_))|refine C7 (aP f.T.length 1 32) ?_)
 ·exact W0 (λz=>[B z]) (by symm;unfold cU;rw[T0 (by omega:¬(f.a5.length=f.T.length))];simp)
 rotate_left
 ·exact W0 (λz=>[B z]) (by symm;unfold cU;rw[T0 (by omega:¬(1<=f.T.length/\f.T.length<=32))];rfl)
 have j:1<=f.T.length/\f.T.length<=32:=ω
 have l:f.a5.length=f.T.length:=ω
 (conv=>whnf)
 refine CF (ι:=Nat) (λi=>[(1,.H .box (aV.enc .V f)),(22,.H .one (kU .V f.T)),(23,.H .one [I (f.T.length)]),(24,.H .one [I ((i:Nat):Int)])]) (λi=>i<=f.T.length/\((f.T.zip f.a5).take i).all (λq=>gM q.1 q.2)=true) (λi=>f.T.length - i) (0) ?_ (⟨U0 _,rfl⟩) λi o=>?_
 ·exact wB
 obtain⟨o,p⟩:=o;by_cases n:i<f.T.length
 ·obtain⟨r,c⟩ : ∃r,f.T[i]? = some r:=⟨_,Z1 n⟩
  obtain⟨u,b⟩ : ∃u,f.a5[i]? = some u:=⟨_,Z1 ω⟩
  have y:r.length<=1048576:=h.1.2 r (V1 c)
  repeat'(first|refine gD ?_|(conv=>whnf);first|with_reducible (first|refine CD (aa c) ?_|refine Bf.N (λa=>?_) (λa=>?_)))
  ·exact W0 (λz=>[B z]) (iz c b (by unfold gM;rw[T0 ω];rfl)).symm
  have g:r.length=16:=ω
  (conv=>whnf)
  refine CF (ι:=Nat) (λk=>[(1,.H .box (aV.enc .V f)),(3,.H .one [I ((i:Nat):Int)]),(22,.H .one (kU .V f.T)),(23,.H .one [I (f.T.length)]),(24,.H .one [I ((i:Nat):Int)]),(32,.H .one (aG .V r)),(33,.H .one [I (r.length)]),(34,.H .one [I ((k:Nat):Int)])]) (λk=>k<=r.length/\(r.take k).all (iy u)=true) (λk=>r.length - k) (0) ?_ (⟨U0 _,rfl⟩) λk t=>?_
  ·exact wB
  obtain⟨t,d⟩:=t;by_cases w:k<r.length
  ·obtain⟨v,e⟩ : ∃v,r[k]? = some v:=⟨_,Z1 ω⟩
   cases u with
   | true=>
    repeat'(first|refine gD ?_|(conv=>whnf);first|with_reducible (first|refine CD (aa c) ?_|refine CD (aa b) ?_|refine CD (aa e) ?_|refine Bf.D (λa=>?_) (λa=>?_)|refine Bf.N (λa=>?_) (λa=>?_))|refine C7 (aP v 0 999) ?_)
    all_goals first
     | exact W0 (λz=>[B z]) (iz c b (rX e (by unfold iy;grind))).symm
     | ((conv=>whnf)
        refine CE (ι:=Nat) (k+1) ⟨ω,cR e d (by unfold iy;grind)⟩ ω ?_
        (exact wA))
   | false=>
    repeat'(first|refine gD ?_|(conv=>whnf);first|with_reducible (first|refine CD (aa c) ?_|refine CD (aa b) ?_|refine CD (aa e) ?_|refine Bf.D (λa=>?_) (λa=>?_)|refine Bf.N (λa=>?_) (λa=>?_))|refine C7 (aP v 0 999) ?_)
    all_goals first
     | exact W0 (λz=>[B z]) (iz c b (rX e (by unfold iy;grind))).symm
     | ((conv=>whnf)
        refine CE (ι:=Nat) (k+1) ⟨ω,cR e d (by unfold iy;grind)⟩ ω ?_
        (exact wA))
  repeat'(first|refine gD ?_|fail)
  (conv=>whnf)
  refine CE (i+1) ⟨ω,cR (vF c b) p (by unfold gM;rw[gy ω d];simp[g])⟩ ω ?_;exact wB
 repeat'(first|refine gD ?_|fail)
 exact W0 (λz=>[B z]) (by symm;unfold cU;rw[gy (by rw[List.length_zip];omega) p];simp[j,l])
theorem Ao(t:aI)(b:Int)(g:aI.sml t):ar Tryz.prog 472 false [.val (some 1) (aI.enc .V t),.val none [I b]] .one [B (gf t b)]:=by
 have k:=g.1;refine fO 54 [] Tryz.func472 rfl ?_
 repeat'(first|refine gO ?_|fail)
 (conv=>whnf)
 refine CF (ι:=Nat) (λi=>[(1,.H .one [I (b)]),(2,.H .box (aI.enc .V t)),(5,.H .one [I ((i:Nat):Int)])]) (λi=>i<=t.J.length/\cQ i (λj=>kj b (nth t.J j))=true) (λi=>t.J.length - i) 0 ?_ ⟨U0 _,rfl⟩ λi c=>?_
 ·exact wB
 obtain⟨c,d⟩:=c;by_cases e:i<t.J.length
 ·have h:=ao e
  repeat'(first|refine gD ?_|(conv=>whnf);first|with_reducible (first|refine CD (aa h) ?_|refine Bf.D (λa=>?_) (λa=>?_)|refine Bf.N (λa=>?_) (λa=>?_)|refine Bf.E (λa=>?_) (λa=>?_))|refine C7 (aH _ 0 2) ?_)
  all_goals first
   | exact W0 (λz=>[B z]) ((by symm;unfold gf;rw[cj e (T0 (by grind))];rfl))
   | ((conv=>whnf);refine CE (i+1) ⟨ω,bJ d (O0 (by grind))⟩ ω ?_;(exact wB))
 repeat'(first|refine gD ?_|(conv=>whnf);first|refine C7 (aH _ 1 32) ?_)
 obtain rfl:i=t.J.length:=ω
 exact W0 (λz=>[B z]) ((by unfold gf;rw[d,Bool.true_and];exact decide_eq_decide.2 ω))
theorem AE(t:aI)(b:Int)(g:aI.sml t):ar Tryz.prog 255 false [.val (some 1) (aI.enc .V t),.val none [I b]] .one [B (gf t b)]:=by
 have k:=g.1;refine fO 49 [] Tryz.func255 rfl ?_
 repeat'(first|refine gO ?_|fail)
 (conv=>whnf)
 refine CF (ι:=Nat) (λi=>[(1,.H .one [I (b)]),(2,.H .box (aI.enc .V t)),(8,.H .one (wN .V t.J)),(9,.H .one [I (t.J.length)]),(10,.H .one [I ((i:Nat):Int)])]) (λi=>i<=t.J.length/\cQ i (λj=>kj b (nth t.J j))=true) (λi=>t.J.length - i) 0 ?_ ⟨U0 _,rfl⟩ λi c=>?_
 ·exact wB
 obtain⟨c,d⟩:=c;by_cases e:i<t.J.length
 ·have h:=ao e
  repeat'(first|refine gD ?_|(conv=>whnf);first|with_reducible (first|refine CD (aa h) ?_|refine Bf.D (λa=>?_) (λa=>?_)|refine Bf.N (λa=>?_) (λa=>?_)|refine Bf.E (λa=>?_) (λa=>?_))|refine C7 (aP _ 0 2) ?_)
  all_goals first
   | exact W0 (λz=>[B z]) ((by symm;unfold gf;rw[cj e (T0 (by grind))];rfl))
   | ((conv=>whnf);refine CE (i+1) ⟨ω,bJ d (O0 (by grind))⟩ ω ?_;(exact wB))
 repeat'(first|refine gD ?_|(conv=>whnf);first|refine C7 (aP _ 1 32) ?_)
 obtain rfl:i=t.J.length:=ω
 exact W0 (λz=>[B z]) ((by unfold gf;rw[d,Bool.true_and];exact decide_eq_decide.2 ω))
theorem gB(t:aI)(f:Int)(c:aI.sml t):ar Tryz.prog 473 false [.val (some 1) (aI.enc .V t),.val none [I f]] .one (aG .own (pagesOn t f)):=by
 have j:=c.1;refine fO 37 [] Tryz.func473 rfl ?_ (.inr (bM _))
 repeat'(first|refine gO ?_|fail)
 (conv=>whnf)
 refine CF (ι:=Nat) (λi=>[(1,.H .one [I (f)]),(2,.H .box (aI.enc .V t)),(5,.H .one (aG .own (jI t f i))),(6,.H .one [I ((i:Nat):Int)])]) (λi=>i<=t.J.length) (λi=>t.J.length - i) (0) ?_ (U0 _) λi k=>?_
 ·exact wB
 have d:=t7 t f i;by_cases e:i<t.J.length
 ·have g:=ao e
  repeat'(first|refine gD ?_|(conv=>whnf);first|with_reducible (first|refine CD (aa g) ?_|refine Bf.D (λb=>?_) (λb=>?_)|refine Bf.N (λb=>?_) (λb=>?_)|refine Bf.E (λb=>?_) (λb=>?_))|refine CT cA (λr h=>by rw[I1.1 h];rfl) (by simp[aW,dP]) (by simp;omega) (by simp only[Z0];exact xY (by simp;omega) (by decide)) rfl ?_)
  all_goals first
   |(have a:JR t f i=true:=O0 (by grind)
     (conv=>whnf)
     refine CE (i+1) ω ω ?_;rw[z7 a]
     (repeat'(first|exact trivial|rfl|exact CL rfl (CL (W0 (C.s dI.own) (by simp[rI])) trivial)|refine CL ?_ ?_)))
   |(have a:JR t f i=false:=T0 (by grind)
     (conv=>whnf)
     refine CE (i+1) ω ω ?_;rw[Ei a]
     (exact wA))
 repeat'(first|refine gD ?_|fail)
 obtain rfl:i=t.J.length:=ω
 rfl
theorem sf(t:aI)(f:Int)(c:aI.sml t):ar Tryz.prog 256 false [.val (some 1) (aI.enc .V t),.val none [I f]] .one (aG .own (pagesOn t f)):=by
 have j:=c.1;refine fO 32 [] Tryz.func256 rfl ?_ (.inr (bM _))
 repeat'(first|refine gO ?_|fail)
 (conv=>whnf)
 refine CF (ι:=Nat) (λi=>[(1,.H .one [I (f)]),(5,.H .one (aG .own (jI t f i))),(10,.H .one (wN .V t.J)),(11,.H .one [I (t.J.length)]),(12,.H .one [I ((i:Nat):Int)])]) (λi=>i<=t.J.length) (λi=>t.J.length - i) (0) ?_ (U0 _) λi k=>?_
 ·exact wB
 have d:=t7 t f i;by_cases e:i<t.J.length
 ·have g:=ao e
  repeat'(first|refine gD ?_|(conv=>whnf);first|with_reducible (first|refine CD (aa g) ?_|refine Bf.D (λb=>?_) (λb=>?_)|refine Bf.N (λb=>?_) (λb=>?_)|refine Bf.E (λb=>?_) (λb=>?_))|refine CT cA (λr h=>by rw[I1.1 h];rfl) (by simp[aW,dP]) (by simp;omega) (by simp only[Z0];exact xY (by simp;omega) (by decide)) rfl ?_)
  all_goals first
   |(have a:JR t f i=true:=O0 (by grind)
     (conv=>whnf)
     refine CE (i+1) ω ω ?_;rw[z7 a]
     (repeat'(first|exact trivial|rfl|exact CL rfl (CL (W0 (C.s dI.own) (by simp[rI])) trivial)|refine CL ?_ ?_)))
   |(have a:JR t f i=false:=T0 (by grind)
     (conv=>whnf)
     refine CE (i+1) ω ω ?_;rw[Ei a]
     (exact wA))
 repeat'(first|refine gD ?_|fail)
 obtain rfl:i=t.J.length:=ω
 rfl
theorem dl(t:aI)(p:Int)(b:aI.sml t):ar Tryz.prog 48 false [.val (some 1) (aI.enc .V t),.val none [I p]] .agg (bi.enc .own (ac t p)):=by
 have d:=b.1;refine fO 18 [] Tryz.func48 rfl ?_ (.inr (bi.enc_fr _));by_cases a:0<=p/\p<t.J.length
 ·have c:=ao (xs:=t.J) (i:=p.toNat) ω
  repeat'(first|refine gD ?_|(conv=>whnf);first|refine C7 (aH _ 0 _) ?_|refine CN a.1 (aa c) ?_)
  all_goals(unfold ac;rw[C9 a];rfl)
 repeat'(first|refine gD ?_|(conv=>whnf);first|refine C7 (aH _ 0 _) ?_)
 all_goals(unfold ac;rw[C8 a];rfl)
theorem gt(t:aI)(p:Int)(b:aI.sml t):ar Tryz.prog 139 false [.val (some 1) (aI.enc .V t),.val none [I p]] .agg (bi.enc .own (ac t p)):=by
 have d:=b.1;refine fO 18 [] Tryz.func139 rfl ?_ (.inr (bi.enc_fr _));by_cases a:0<=p/\p<t.J.length
 ·have c:=ao (xs:=t.J) (i:=p.toNat) ω
  repeat'(first|refine gD ?_|(conv=>whnf);first|refine C7 (aP _ 0 _) ?_|refine CN a.1 (aa c) ?_)
  all_goals(unfold ac;rw[C9 a];rfl)
 repeat'(first|refine gD ?_|(conv=>whnf);first|refine C7 (aP _ 0 _) ?_)
 all_goals(unfold ac;rw[C8 a];rfl)
theorem qD(t:aI)(f:Int):(pagesOn t f).length<=t.J.length:=t7 ..
theorem ot(m:aU)(b:aU.sml m):ar Tryz.prog 364 false [.val (some 3) (aU.enc .V m)] .one [B (dz m)]:=by
 have q:m.W.a5.length<=1048576:=b.1.2;have l:m.W.T.length<=1048576:=b.1.1.1;have c:=pW m.W b.1;have e:=Ao m.R m.W.T.length b.2;cases a:cU m.W with
 | false=>
  rw[a]at c;refine fO 39 [(6,13,[26,27,28,29,30,31,32,33,34,35,36,37,38])] Tryz.func364 rfl ?_
  repeat'(first|refine gO ?_|(conv=>whnf);first|refine C7 c ?_)
  exact W0 (λz=>[B z]) ((by unfold dz;rw[a];rfl))
 | true=>
  have g:=Aj a;rw[a]at c;cases d:gf m.R m.W.a5.length with
  | false=>
   rw[show(m.W.T.length:Int)=m.W.a5.length by omega,d]at e;refine fO 39 [(6,13,[26,27,28,29,30,31,32,33,34,35,36,37,38])] Tryz.func364 rfl ?_
   repeat'(first|refine gO ?_|(conv=>whnf);first|refine C7 c ?_|refine C7 ((show(m.W.T.length:Int)=m.W.a5.length by omega) ▸ e) ?_)
   exact W0 (λz=>[B z]) ((by unfold dz;rw[a,d];rfl))
  | true=>
   rw[show(m.W.T.length:Int)=m.W.a5.length by omega,d]at e;refine fO 39 [(6,13,[26,27,28,29,30,31,32,33,34,35,36,37,38])] Tryz.func364 rfl ?_
   repeat'(first|refine gO ?_|(conv=>whnf);first|refine C7 c ?_|refine C7 ((show(m.W.T.length:Int)=m.W.a5.length by omega) ▸ e) ?_)
   (conv=>whnf)
   refine CF (ι:=Nat) (λi=>[(1,.H .box (aU.enc .V m)),(3,.H .one [I ((i:Nat):Int)])]) (λi=>i<=m.W.a5.length/\cQ i (pd m)=true) (λi=>m.W.a5.length - i) 0 ?_ ⟨U0 _,rfl⟩ λi h=>?_
   ·exact wB
   obtain⟨h,j⟩:=h;by_cases k:i<m.W.a5.length
   ·have n:=ao k
    have o:=qD m.R (i:Nat)
    repeat'(first|refine gD ?_|(conv=>whnf);first|with_reducible (first|refine CD (aa n) ?_|refine Bf.NB (λp=>?_) (λp=>?_))|refine C7 (gB m.R (i:Nat) b.2) ?_)
    all_goals first
     | exact W0 (λz=>[B z]) ((by symm;unfold dz;rw[a,d,cj k (by unfold pd;grind)];rfl))
     | ((conv=>whnf);refine CE (i+1) ⟨ω,bJ j (by unfold pd;grind)⟩ ω ?_;(exact wB))
   repeat'(first|refine gD ?_|fail)
   obtain rfl:i=m.W.a5.length:=ω
   exact W0 (λz=>[B z]) ((by unfold dz;rw[a,d,j];rfl))
theorem oB(m:aU)(d:aU.sml m):ar Tryz.prog 84 false [.val (some 3) (aU.enc .V m)] .one [B (dz m)]:=by
 have o:m.W.a5.length<=1048576:=d.1.2;have b:=qb m.W d.1;have e:=AE m.R m.W.a5.length d.2;cases a:cU m.W with
 | false=>
  rw[a]at b;refine fO 37 [] Tryz.func84 rfl ?_
  repeat'(first|refine gO ?_|(conv=>whnf);first|refine C7 b ?_)
  exact W0 (λz=>[B z]) ((by unfold dz;rw[a];rfl))
 | true=>
  rw[a]at b;cases c:gf m.R m.W.a5.length with
  | false=>
   rw[c]at e;refine fO 37 [] Tryz.func84 rfl ?_
   repeat'(first|refine gO ?_|(conv=>whnf);first|refine C7 b ?_|refine C7 e ?_)
   exact W0 (λz=>[B z]) ((by unfold dz;rw[a,c];rfl))
  | true=>
   rw[c]at e;refine fO 37 [] Tryz.func84 rfl ?_
   repeat'(first|refine gO ?_|(conv=>whnf);first|refine C7 b ?_|refine C7 e ?_)
   (conv=>whnf)
   refine CF (ι:=Nat) (λi=>[(1,.H .box (aU.enc .V m)),(21,.H .one (jY .V m.W.a5)),(22,.H .one [I (m.W.a5.length)]),(23,.H .one [I ((i:Nat):Int)])]) (λi=>i<=m.W.a5.length/\cQ i (pd m)=true) (λi=>m.W.a5.length - i) 0 ?_ ⟨U0 _,rfl⟩ λi g=>?_
   ·exact wB
   obtain⟨g,h⟩:=g;by_cases j:i<m.W.a5.length
   ·have k:=ao j
    have l:=qD m.R (i:Nat)
    repeat'(first|refine gD ?_|(conv=>whnf);first|with_reducible (first|refine CD (aa k) ?_|refine Bf.NB (λn=>?_) (λn=>?_))|refine C7 (sf m.R (i:Nat) d.2) ?_)
    all_goals first
     | exact W0 (λz=>[B z]) ((by symm;unfold dz;rw[a,c,cj j (by unfold pd;grind)];rfl))
     | ((conv=>whnf);refine CE (i+1) ⟨ω,bJ h (by unfold pd;grind)⟩ ω ?_;(exact wB))
   repeat'(first|refine gD ?_|fail)
   obtain rfl:i=m.W.a5.length:=ω
   exact W0 (λz=>[B z]) ((by unfold dz;rw[a,c,h];rfl))
theorem lU(k:ah)(d:ah.sml k):ar Tryz.prog 223 false [.val (some 5) (ah.enc .V k)] .one [B (a8 k)]:=by
 have n:k.y.length<=1048576:=d.2;have a:=ot k.F d.1;refine fO 31 [] Tryz.func223 rfl ?_
 repeat'(first|refine gO ?_|fail)
 (conv=>whnf)
 refine CF (ι:=Nat) (λi=>[(1,.H .box (ah.enc .V k)),(3,.H .one [I ((i:Nat):Int)])]) (λi=>i<=k.y.length/\cQ i (λj=>decide (0<=nth k.y j))=true) (λi=>k.y.length - i) 0 ?_ ⟨U0 _,rfl⟩ λi e=>?_
 ·exact wB
 obtain⟨e,g⟩:=e;by_cases h:i<k.y.length
 ·have l:=ao h
  repeat'(first|refine gD ?_|(conv=>whnf);first|with_reducible (first|refine CD (aa l) ?_|refine Bf.D (λc=>?_) (λc=>?_)))
  all_goals first
   | exact W0 (λz=>[B z]) ((by symm;unfold a8;rw[cj h (T0 ω)];rfl))
   | ((conv=>whnf);refine CE (i+1) ⟨ω,bJ g (O0 ω)⟩ ω ?_;(exact wB))
 obtain rfl:i=k.y.length:=ω
 cases b:dz k.F with
 | false=>
  rw[b]at a
  repeat'(first|refine gD ?_|(conv=>whnf);first|refine C7 a ?_)
  all_goals exact W0 (λz=>[B z]) ((by unfold a8;rw[b];simp))
 | true=>
  rw[b]at a
  repeat'(first|refine gD ?_|(conv=>whnf);first|with_reducible refine Bf.D (λc=>?_) (λc=>?_)|refine C7 a ?_|refine C7 (aH _ 0 100000) ?_)
  all_goals exact W0 (λz=>[B z]) ((by unfold a8;rw[b,g];simp only[Bool.true_and];first|exact decide_eq_decide.2 ω|(symm;exact T0 ω)|(symm;exact O0 ω)))
theorem yI(k:ah)(b:ah.sml k):ar Tryz.prog 27 false [.val (some 5) (ah.enc .V k)] .one [B (a8 k)]:=by
 have l:k.y.length<=1048576:=b.2;have g:=oB k.F b.1;refine fO 29 [] Tryz.func27 rfl ?_
 repeat'(first|refine gO ?_|fail)
 (conv=>whnf)
 refine CF (ι:=Nat) (λi=>[(1,.H .box (ah.enc .V k)),(6,.H .one (aG .V k.y)),(7,.H .one [I (k.y.length)]),(8,.H .one [I ((i:Nat):Int)])]) (λi=>i<=k.y.length/\cQ i (λj=>decide (0<=nth k.y j))=true) (λi=>k.y.length - i) 0 ?_ ⟨U0 _,rfl⟩ λi c=>?_
 ·exact wB
 obtain⟨c,d⟩:=c;by_cases e:i<k.y.length
 ·have h:=ao e
  repeat'(first|refine gD ?_|(conv=>whnf);first|with_reducible (first|refine CD (aa h) ?_|refine Bf.D (λa=>?_) (λa=>?_)))
  all_goals first
   | exact W0 (λz=>[B z]) ((by symm;unfold a8;rw[cj e (T0 ω)];rfl))
   | ((conv=>whnf);refine CE (i+1) ⟨ω,bJ d (O0 ω)⟩ ω ?_;(exact wB))
 obtain rfl:i=k.y.length:=ω
 repeat'(first|refine gD ?_|(conv=>whnf);first|with_reducible refine Bf.D (λa=>?_) (λa=>?_)|refine C7 g ?_|refine C7 (aP _ 0 100000) ?_)
 all_goals exact W0 (λz=>[B z]) ((by unfold a8;rw[d];cases dz k.F<;>simp only[Bool.true_and,Bool.false_and]<;>first|rfl|exact decide_eq_decide.2 ω|(symm;exact T0 ω)|(symm;exact O0 ω)))
theorem wW(pages:Int)(r:aA)(b:0<=pages/\pages<=1048576):ar Tryz.prog 365 false [.val none [I pages],.val (some 2) (aA.enc .V r)] .one [B (rangeIn pages r)]:=by
 refine fO 18 [] Tryz.func365 rfl ?_
 repeat'(first|refine gO ?_|(conv=>whnf);first|with_reducible refine Bf.D (λa=>?_) (λa=>?_)|refine C7 (aH _ 1 _) ?_|refine C7 (aH _ 0 _) ?_)
 all_goals exact W0 (λz=>[B z]) ((by unfold rangeIn;first|(symm;exact T0 ω)|exact decide_eq_decide.2 ω))
theorem Fr(pages:Int)(r:aA)(b:0<=pages/\pages<=1048576):ar Tryz.prog 238 false [.val none [I pages],.val (some 2) (aA.enc .V r)] .one [B (rangeIn pages r)]:=by
 refine fO 18 [] Tryz.func238 rfl ?_
 repeat'(first|refine gO ?_|(conv=>whnf);first|with_reducible refine Bf.D (λa=>?_) (λa=>?_)|refine C7 (aP _ 1 _) ?_|refine C7 (aP _ 0 _) ?_)
 all_goals exact W0 (λz=>[B z]) ((by unfold rangeIn;first|(symm;exact T0 ω)|exact decide_eq_decide.2 ω))
theorem n7(k:Int):ar Tryz.prog 475 false [.val none [I k]] .one [I (slots k)]:=by
 by_cases b:0<=k/\k<=3
 ·obtain rfl|rfl|rfl|rfl:k=0\/k=1\/k=2\/k=3:=ω
  all_goals
   refine fO 9 [] Tryz.func475 rfl ?_
   repeat'(first|refine gD ?_|(conv=>whnf);first|with_reducible refine Bf.D (λa=>?_) (λa=>?_)|refine C7 (aH _ 0 3) ?_|refine CO (by decide) ?_|refine CM rfl ?_|refine CU rfl ?_)
   exact W0 (λz=>[I z]) (by decide)
 refine fO 9 [] Tryz.func475 rfl ?_
 repeat'(first|refine gD ?_|(conv=>whnf);first|with_reducible refine Bf.D (λa=>?_) (λa=>?_)|refine C7 (aH _ 0 3) ?_)
 exact W0 (λz=>[I z]) (by unfold slots;rw[C8 ω,C8 ω,C8 ω,C8 ω])
theorem iN(k:Int):ar Tryz.prog 349 false [.val none [I k]] .one [I (slots k)]:=by
 by_cases b:0<=k/\k<=3
 ·obtain rfl|rfl|rfl|rfl:k=0\/k=1\/k=2\/k=3:=ω
  all_goals
   refine fO 9 [] Tryz.func349 rfl ?_
   repeat'(first|refine gD ?_|(conv=>whnf);first|with_reducible refine Bf.D (λa=>?_) (λa=>?_)|refine C7 (fI _) ?_|refine C7 (cJ _) ?_|refine CO (by decide) ?_|refine CM rfl ?_|refine CU rfl ?_)
   exact W0 (λz=>[I z]) (by decide)
 refine fO 9 [] Tryz.func349 rfl ?_
 repeat'(first|refine gD ?_|(conv=>whnf);first|with_reducible refine Bf.D (λa=>?_) (λa=>?_)|refine C7 (fI _) ?_)
 exact W0 (λz=>[I z]) (by unfold slots;rw[C8 ω,C8 ω,C8 ω,C8 ω])
def KV(k b:Int):Bool:=decide (0<=k/\k<=3/\0<=b/\b<=lim k)
theorem qt(k b:Int):ar Tryz.prog 474 false [.val none [I (slots k)],.val none [I b]] .one [B (KV k b)]:=by
 by_cases d:0<=k/\k<=3
 ·obtain rfl|rfl|rfl|rfl:k=0\/k=1\/k=2\/k=3:=ω
  all_goals
   first|rw[show slots 0=16 from rfl]|rw[show slots 1=8 from rfl]|rw[show slots 2=4 from rfl]|rw[show slots 3=2 from rfl]
   refine fO 15 [] Tryz.func474 rfl ?_
   repeat'(first|refine gD ?_|(conv=>whnf);first|with_reducible refine Bf.D (λa=>?_) (λa=>?_)|refine C7 (aH _ 1 16) ?_|refine C7 (aH _ 0 _) ?_|refine CO (by decide) ?_|refine CM (show _=(65536:Int) by decide) ?_|refine CM (show _=(65535:Int) by decide) ?_|refine CM (show _=(256:Int) by decide) ?_|refine CM (show _=(255:Int) by decide) ?_|refine CM (show _=(16:Int) by decide) ?_|refine CM (show _=(15:Int) by decide) ?_|refine CM (show _=(4:Int) by decide) ?_|refine CM (show _=(8:Int) by decide) ?_|refine CM (show _=(2:Int) by decide) ?_|refine CM (show _=(3:Int) by decide) ?_)
   all_goals exact W0 (λz=>[B z]) ((decide_eq_decide.2 (by simp[lim])))
 have c:slots k=0:=by unfold slots;rw[C8 ω,C8 ω,C8 ω,C8 ω]
 rw[c];refine fO 15 [] Tryz.func474 rfl ?_
 repeat'(first|refine gD ?_|(conv=>whnf);first|with_reducible refine Bf.D (λa=>?_) (λa=>?_)|refine C7 (aH _ 1 16) ?_)
 exact W0 (λz=>[B z]) ((by symm;exact T0 ω))
theorem yL(k b:Int):ar Tryz.prog 389 false [.val none [I (slots k)],.val none [I b]] .one [B (KV k b)]:=by
 by_cases d:0<=k/\k<=3
 ·obtain rfl|rfl|rfl|rfl:k=0\/k=1\/k=2\/k=3:=ω
  all_goals
   first|rw[show slots 0=16 from rfl]|rw[show slots 1=8 from rfl]|rw[show slots 2=4 from rfl]|rw[show slots 3=2 from rfl]
   refine fO 14 [] Tryz.func389 rfl ?_
   repeat'(first|refine gD ?_|(conv=>whnf);first|with_reducible refine Bf.D (λa=>?_) (λa=>?_)|refine C7 (aP _ 1 16) ?_|refine C7 (aP _ 0 _) ?_|refine CO (by decide) ?_|refine CM (eQ (by decide) (by decide)) ?_)
   all_goals exact W0 (λz=>[B z]) ((decide_eq_decide.2 (by simp[lim,IntKind.bits])))
 have c:slots k=0:=by unfold slots;rw[C8 ω,C8 ω,C8 ω,C8 ω]
 rw[c];refine fO 14 [] Tryz.func389 rfl ?_
 repeat'(first|refine gD ?_|(conv=>whnf);first|with_reducible refine Bf.D (λa=>?_) (λa=>?_)|refine C7 (aP _ 1 16) ?_)
 exact W0 (λz=>[B z]) ((by symm;exact T0 ω))
theorem fA(s:ax):ar Tryz.prog 366 false [.val (some 3) (ax.enc .V s)] .one [B (bg s)]:=by
 refine fO 14 [(1,12,[3,4,5,6,7,8,9,10,11,12,13,2])] Tryz.func366 rfl ?_
 repeat'(first|refine gO ?_|(conv=>whnf);first|with_reducible refine Bf.D (λa=>?_) (λa=>?_)|refine C7 (aH _ 0 31) ?_|refine C7 (n7 _) ?_|refine C7 (qt _ _) ?_)
 all_goals exact W0 (λz=>[B z]) ((by unfold bg;first|(symm;exact T0 ω)|exact decide_eq_decide.2 ω))
theorem i6(s:ax):ar Tryz.prog 240 false [.val (some 3) (ax.enc .V s)] .one [B (bg s)]:=by
 refine fO 19 [(1,17,[3,4,5,6,7,8,9,10,11,12,13,14,15,16,17,18,2])] Tryz.func240 rfl ?_
 repeat'(first|refine gO ?_|(conv=>whnf);first|with_reducible refine Bf.D (λa=>?_) (λa=>?_)|refine C7 (aP _ 0 31) ?_|refine C7 (fI _) ?_|refine C7 (iN _) ?_|refine C7 (yL _ _) ?_)
 all_goals exact W0 (λz=>[B z]) ((by unfold bg;first|(symm;exact T0 ω)|exact decide_eq_decide.2 ω))
section
variable{α:Type}{xs:List α}{p:α->Bool}{i:Nat}{y:α}
theorem Bj(h:xs[i]? = some y)(a:p y=true):xs.any p=true:=V3.2 ⟨y,V1 h,a⟩
theorem wF(h:xs[i]? = some y)(a:(xs.take i).any p=false)(b:p y=false):(xs.take (i+1)).any p=false:=by
 rw[Y4,h,List.any_append,a];simp[b]
theorem GU(a:xs.length<=i)(b:(xs.take i).any p=false):xs.any p=false:=by
 rwa [Z5 a]at b
theorem gi[Inhabited α](a:0<i)(b:i<xs.length):xs[((i:Int) - 1).toNat]? = some (nth xs (i - 1)):=by
 rw[show((i:Int) - 1).toNat=i - 1 by omega];exact ao ω
end
theorem we{pages:Int}{xs:List aA}{i n:Nat}(a:cQ n (gg pages xs)=true)(b:i<n):1<=(nth xs i).b0/\(nth xs i).b0<=pages/\0<=(nth xs i).At/\(nth xs i).At<=pages - (nth xs i).b0:=by
 have:=dL a b;unfold gg rangeIn at this;simp only[I0,C0]at this;exact this.1
theorem mc(pages:Int)(xs:List aA)(e:0<=pages/\pages<=1048576)(k:jg xs):ar Tryz.prog 224 false [.val none [I pages],.val none (bQ .V xs)] .one [B (b8 pages xs)]:=by
 have n:=k.1;refine fO 46 [(4,32,[12,13,14,15,16,17,18,19,20,21,22,23,24,25,26,27,28,29,30,31,32,33,34,35,36,37,38,39,40,41,42,43])] Tryz.func224 rfl ?_
 repeat'(first|refine gO ?_|fail)
 (conv=>whnf)
 refine CF (ι:=Nat) (λi=>[(0,.H .one [I (pages)]),(1,.H .one (bQ .V xs)),(5,.H .one [I ((i:Nat):Int)])]) (λi=>i<=xs.length/\cQ i (gg pages xs)=true) (λi=>xs.length - i) 0 ?_ ⟨U0 _,rfl⟩ λi g=>?_
 ·exact wB
 obtain⟨g,d⟩:=g;by_cases c:i<xs.length
 ·have j:=ao c
  have o:0<i->1<=(nth xs (i - 1)).b0/\(nth xs (i - 1)).b0<=pages/\0<=(nth xs (i - 1)).At/\(nth xs (i - 1)).At<=pages - (nth xs (i - 1)).b0:=λh=>we d ω
  cases a:rangeIn pages (nth xs i) with
  | false=>
   have b:=wW pages (nth xs i) e;rw[a]at b
   repeat'(first|refine gD ?_|(conv=>whnf);first|with_reducible refine CD (aa j) ?_|refine C7 b ?_)
   exact W0 (λz=>[B z]) ((by symm;unfold b8;rw[cj c (by unfold gg;rw[a];rfl)];rfl))
  | true=>
   have b:=wW pages (nth xs i) e;rw[a]at b
   repeat'(first|refine gD ?_|(conv=>whnf);first|with_reducible (first|refine CD (aa j) ?_|refine Bf.D (λl=>?_) (λl=>?_))|refine C7 b ?_|refine CN ω (aa (gi ω c)) ?_)
   all_goals first
    | exact W0 (λz=>[B z]) ((by symm;unfold b8;rw[cj c (by unfold gg;rw[a,T0 ω];rfl)];rfl))
    | ((conv=>whnf);refine CE (i+1) ⟨ω,bJ d (by unfold gg;rw[a,O0 ω];rfl)⟩ ω ?_;(exact wB))
 repeat'(first|refine gD ?_|(conv=>whnf);first|refine C7 (aH pages 1 32) ?_)
 obtain rfl:i=xs.length:=ω
 exact W0 (λz=>[B z]) ((by unfold b8;rw[d];rfl))
theorem yF(pages:Int)(xs:List aA)(j:0<=pages/\pages<=1048576)(k:jg xs):ar Tryz.prog 72 false [.val none [I pages],.val none (bQ .V xs)] .one [B (b8 pages xs)]:=by
 have n:=k.1;refine fO 43 [(4,26,[14,15,16,17,18,19,20,21,22,23,24,25,26,27,28,29,30,31,32,33,34,35,36,37,38,39])] Tryz.func72 rfl ?_
 repeat'(first|refine gO ?_|fail)
 (conv=>whnf)
 refine CF (ι:=Nat) (λi=>[(0,.H .one [I (pages)]),(1,.H .one (bQ .V xs)),(7,.H .one (bQ .V xs)),(8,.H .one [I (xs.length)]),(9,.H .one [I ((i:Nat):Int)])]) (λi=>i<=xs.length/\cQ i (gg pages xs)=true) (λi=>xs.length - i) 0 ?_ ⟨U0 _,rfl⟩ λi e=>?_
 ·exact wB
 obtain⟨e,d⟩:=e;by_cases b:i<xs.length
 ·have g:=ao b
  have o:0<i->1<=(nth xs (i - 1)).b0/\(nth xs (i - 1)).b0<=pages/\0<=(nth xs (i - 1)).At/\(nth xs (i - 1)).At<=pages - (nth xs (i - 1)).b0:=λh=>we d ω
  have c:=Fr pages (nth xs i) j;cases a:rangeIn pages (nth xs i) with
  | false=>
   rw[a]at c
   repeat'(first|refine gD ?_|(conv=>whnf);first|with_reducible refine CD (aa g) ?_|refine C7 c ?_)
   exact W0 (λz=>[B z]) ((by symm;unfold b8;rw[cj b (by unfold gg;rw[a];rfl)];rfl))
  | true=>
   rw[a]at c
   repeat'(first|refine gD ?_|(conv=>whnf);first|with_reducible (first|refine CD (aa g) ?_|refine Bf.D (λl=>?_) (λl=>?_))|refine C7 c ?_|refine CN ω (aa (gi ω b)) ?_)
   all_goals first
    | exact W0 (λz=>[B z]) ((by symm;unfold b8;rw[cj b (by unfold gg;rw[a,T0 ω];rfl)];rfl))
    | ((conv=>whnf);refine CE (i+1) ⟨ω,bJ d (by unfold gg;rw[a,O0 ω];rfl)⟩ ω ?_;(exact wB))
 repeat'(first|refine gD ?_|(conv=>whnf);first|refine C7 (aP pages 1 32) ?_)
 obtain rfl:i=xs.length:=ω
 exact W0 (λz=>[B z]) ((by unfold b8;rw[d];rfl))
theorem yJ(xs:List aA)(page:Int)(g:xs.length<=9223372036854775807):ar Tryz.prog 370 false [.val none (bQ .V xs),.val none [I page]] .one [B (xs.any (re page))]:=by
 refine fO 34 [(4,22,[12,13,14,15,16,17,18,19,20,21,22,23,24,25,26,27,28,29,30,31,32,33])] Tryz.func370 rfl ?_
 repeat'(first|refine gO ?_|fail)
 (conv=>whnf)
 refine CF (ι:=Nat) (λi=>[(0,.H .one (bQ .V xs)),(1,.H .one [I (page)]),(5,.H .one [I ((i:Nat):Int)])]) (λi=>i<=xs.length/\(xs.take i).any (re page)=false) (λi=>xs.length - i) (0) ?_ (⟨U0 _,rfl⟩) λi b=>?_
 ·exact wB
 obtain⟨b,c⟩:=b;by_cases d:i<xs.length
 ·have a:=ao d
  repeat'(first|refine gD ?_|(conv=>whnf);first|with_reducible (first|refine CD (aa a) ?_|refine Bf.D (λe=>?_) (λe=>?_))|refine CM rfl ?_)
  all_goals first
   | exact W0 (λz=>[B z]) ((Bj a (by unfold re;rw[O0 (by assumption),O0 (by assumption)];rfl)).symm)
   | ((conv=>whnf);refine CE (i+1) ⟨ω,wF a c (by unfold re;first|(rw[T0 (by assumption:¬(nth xs i).At<=page)];rfl)|(rw[T0 (by assumption:¬page<_)];simp))⟩ ω ?_;(exact wB))
 repeat'(first|refine gD ?_|fail)
 exact W0 (λz=>[B z]) ((GU ω c).symm)
theorem tdiv16{z:Int}(h:0<=z):z.tdiv 16=z / 16:=Int.tdiv_eq_ediv_of_nonneg h
theorem lZ(z:Int):ar Tryz.prog 384 false [.val none [I z]] .one [I (f8 z)]:=by
 refine fO 10 [] Tryz.func384 rfl ?_;by_cases b:9<=z/\z<=1000
 ·repeat'(first|refine gD ?_|(conv=>whnf);first|with_reducible refine Bf.D (λa=>?_) (λa=>?_)|refine C7 (aH z 9 1000) ?_|refine CO (by decide) ?_|refine CM ((W0 _ (tdiv16 ω)).trans (eQ ω ω)) ?_)
  all_goals exact W0 (λz=>[I z]) (by unfold f8;rw[C9 b];omega)
 repeat'(first|refine gD ?_|(conv=>whnf);first|with_reducible refine Bf.D (λa=>?_) (λa=>?_)|refine C7 (aH z 9 1000) ?_)
 all_goals exact W0 (λz=>[I z]) (by unfold f8;rw[C8 b])
theorem yK(z:Int):ar Tryz.prog 206 false [.val none [I z]] .one [I (f8 z)]:=by
 refine fO 10 [] Tryz.func206 rfl ?_;by_cases b:9<=z/\z<=1000
 ·repeat'(first|refine gD ?_|(conv=>whnf);first|with_reducible refine Bf.D (λa=>?_) (λa=>?_)|refine C7 (aP z 9 1000) ?_|refine CO (by decide) ?_|refine CM ((W0 _ (tdiv16 ω)).trans (eQ ω ω)) ?_)
  all_goals exact W0 (λz=>[I z]) (by unfold f8;rw[C9 b];omega)
 repeat'(first|refine gD ?_|(conv=>whnf);first|with_reducible refine Bf.D (λa=>?_) (λa=>?_)|refine C7 (aP z 9 1000) ?_)
 all_goals exact W0 (λz=>[I z]) (by unfold f8;rw[C8 b])
theorem nC(l:a7):ar Tryz.prog 368 false [.val (some 3) (a7.enc .V l)] .one [B (bC l)]:=by
 have b:=lZ l.o;by_cases c:9<=l.o/\l.o<=1000
 ·rw[show f8 l.o=(l.o+15) / 16 from C9 c]at b
  refine fO 22 [] Tryz.func368 rfl ?_
  repeat'(first|refine gO ?_|(conv=>whnf);first|with_reducible (first|refine Bf.D (λa=>?_) (λa=>?_)|refine Bf.E (λa=>?_) (λa=>?_))|refine C7 b ?_|refine C7 (aH _ 0 _) ?_)
  all_goals exact W0 (λz=>[B z]) ((by unfold bC;first|(symm;exact T0 ω)|exact decide_eq_decide.2 ω))
 rw[show f8 l.o=0 from C8 c]at b;refine fO 22 [] Tryz.func368 rfl ?_
 repeat'(first|refine gD ?_|(conv=>whnf);first|with_reducible refine Bf.D (λa=>?_) (λa=>?_)|refine C7 b ?_)
 all_goals exact W0 (λz=>[B z]) ((by unfold bC;symm;exact T0 ω))
theorem rK(l:a7):ar Tryz.prog 241 false [.val (some 3) (a7.enc .V l)] .one [B (bC l)]:=by
 have b:=yK l.o;by_cases c:9<=l.o/\l.o<=1000
 ·rw[show f8 l.o=(l.o+15) / 16 from C9 c]at b
  refine fO 22 [(1,20,[3,4,5,6,7,8,9,10,11,12,13,14,15,16,17,18,19,20,21,2])] Tryz.func241 rfl ?_
  repeat'(first|refine gD ?_|(conv=>whnf);first|with_reducible (first|refine Bf.D (λa=>?_) (λa=>?_)|refine Bf.E (λa=>?_) (λa=>?_))|refine C7 b ?_|refine C7 (aP _ 9 1000) ?_|refine C7 (aP _ 0 _) ?_)
  all_goals exact W0 (λz=>[B z]) ((by unfold bC;first|(symm;exact T0 ω)|exact decide_eq_decide.2 ω))
 refine fO 22 [(1,20,[3,4,5,6,7,8,9,10,11,12,13,14,15,16,17,18,19,20,21,2])] Tryz.func241 rfl ?_
 repeat'(first|refine gD ?_|(conv=>whnf);first|with_reducible refine Bf.D (λa=>?_) (λa=>?_)|refine C7 (aP _ 9 1000) ?_)
 all_goals exact W0 (λz=>[B z]) ((by unfold bC;symm;exact T0 ω))
theorem nj{z:Int}(h:0<=z/\z<=9223372036854775807):(BitVec.ofInt IntKind.i64.bits z).toNat=z.toNat:=by
 show(BitVec.ofInt 64 z).toNat=z.toNat;rw[BitVec.toNat_ofInt]
 congr 1
 exact Int.emod_eq_of_lt h.1 (by show z<((2 ^ 64:Nat):Int);have:=h.2;norm_cast;omega)
theorem and64{z1 z2:Int}(h1:0<=z1/\z1<=9223372036854775807)(a:0<=z2/\z2<=9223372036854775807):IntKind.i64.wrap ((BitVec.ofInt IntKind.i64.bits z1 &&& BitVec.ofInt IntKind.i64.bits z2).toNat:Nat)=((z1.toNat &&& z2.toNat:Nat):Int):=by
 rw[BitVec.toNat_and,nj h1,nj a];have:z1.toNat &&& z2.toNat<=z1.toNat:=Nat.and_le_left;exact eQ ω ω
theorem Fy(k:Int):lim k<=65535:=by
 unfold lim
 (repeat' split)<;>decide
theorem eB{s:ax}(h:bg s=true):0<=s.b1/\s.b1<=9223372036854775807:=by
 unfold bg at h;simp only[C0]at h;have:=Fy s.a;omega
theorem mg(b c:ax):ar Tryz.prog 371 false [.val (some 3) (ax.enc .V b),.val (some 3) (ax.enc .V c)] .one [B (meshable b c)]:=by
 have g:=fA b;have h:=fA c;cases d:bg b<;>rw[d]at g<;>cases e:bg c<;>rw[e]at h
 all_goals
  refine fO 33 [] Tryz.func371 rfl ?_
  repeat'(first|refine gO ?_|(conv=>whnf);first|with_reducible (first|refine Bf.D (λa=>?_) (λa=>?_)|refine Bf.N (λa=>?_) (λa=>?_)|refine Bf.E (λa=>?_) (λa=>?_))|refine C7 g ?_|refine C7 h ?_|refine CM (and64 (eB d) (eB e)) ?_)
  all_goals exact W0 (λz=>[B z]) ((by unfold meshable;rw[d,e];first|rfl|(symm;exact T0 ω)|(rw[O4];simp;omega)))
theorem yv(b c:ax):ar Tryz.prog 244 false [.val (some 3) (ax.enc .V b),.val (some 3) (ax.enc .V c)] .one [B (meshable b c)]:=by
 have g:=i6 b;have h:=i6 c;cases d:bg b<;>rw[d]at g<;>cases e:bg c<;>rw[e]at h
 all_goals
  refine fO 33 [] Tryz.func244 rfl ?_
  repeat'(first|refine gO ?_|(conv=>whnf);first|with_reducible (first|refine Bf.D (λa=>?_) (λa=>?_)|refine Bf.N (λa=>?_) (λa=>?_)|refine Bf.E (λa=>?_) (λa=>?_))|refine C7 g ?_|refine C7 h ?_|refine CM (and64 (eB d) (eB e)) ?_)
  all_goals exact W0 (λz=>[B z]) ((by unfold meshable;rw[d,e];first|rfl|(symm;exact T0 ω)|(rw[O4];simp;omega)))
theorem Jz(k:Int):ar Tryz.prog 394 false [.val none [I k]] .one [B (decide (0<=k/\k<=15))]:=by
 refine fO 5 [] Tryz.func394 rfl ?_
 repeat'(first|refine gO ?_|(conv=>whnf);first|refine C7 (aP k 0 15) ?_)
 rfl
theorem ur(p:cP)(e:cP.sml p):ar Tryz.prog 379 false [.val (some 3) (cP.enc .V p)] .one [B (eH p)]:=by
 have h:p.T.length<=1048576:=e;refine fO 51 [(4,25,[11,12,13,14,15,16,17,18,19,20,21,22,23,24,25,26,27,28,29,30,31,32,33,34,35])] Tryz.func379 rfl ?_
 repeat'(first|refine gO ?_|fail)
 (conv=>whnf)
 refine CF (ι:=Nat) (λi=>[(1,.H .box (cP.enc .V p)),(3,.H .one [I ((i:Nat):Int)])]) (λi=>i<=p.T.length/\cQ i (lY p.T)=true) (λi=>p.T.length - i) 0 ?_ ⟨U0 _,rfl⟩ λi c=>?_
 ·exact wB
 obtain⟨c,d⟩:=c;by_cases b:i<p.T.length
 ·have g:=ao b
  repeat'(first|refine gD ?_|(conv=>whnf);first|with_reducible (first|refine CD (aa g) ?_|refine Bf.D (λa=>?_) (λa=>?_))|refine C7 (aH _ 0 15) ?_|refine CN ω (aa (gi ω b)) ?_)
  all_goals first
   | exact W0 (λz=>[B z]) ((by symm;unfold eH;rw[cj b (T0 ω)];rfl))
   | ((conv=>whnf);refine CE (i+1) ⟨ω,bJ d (O0 ω)⟩ ω ?_;(exact wB))
 obtain rfl:i=p.T.length:=ω
 repeat'(first|refine gD ?_|(conv=>whnf);first|with_reducible (first|refine Bf.D (λa=>?_) (λa=>?_)|refine Bf.NB (λa=>?_) (λa=>?_)|refine Bf.N (λa=>?_) (λa=>?_))|refine C7 (aH _ 0 31) ?_)
 all_goals exact W0 (λz=>[B z]) ((by unfold eH;rw[d];simp only[Bool.true_and];first|(symm;exact T0 ω)|exact decide_eq_decide.2 ω|(rw[O4];simp;omega)))
theorem DV(p:cP)(e:cP.sml p):ar Tryz.prog 251 false [.val (some 3) (cP.enc .V p)] .one [B (eH p)]:=by
 have h:p.T.length<=1048576:=e;refine fO 46 [] Tryz.func251 rfl ?_
 repeat'(first|refine gO ?_|fail)
 (conv=>whnf)
 refine CF (ι:=Nat) (λi=>[(1,.H .box (cP.enc .V p)),(6,.H .one (aG .V p.T)),(7,.H .one [I (p.T.length)]),(8,.H .one [I ((i:Nat):Int)])]) (λi=>i<=p.T.length/\cQ i (lY p.T)=true) (λi=>p.T.length - i) 0 ?_ ⟨U0 _,rfl⟩ λi c=>?_
 ·exact wB
 obtain⟨c,d⟩:=c;by_cases b:i<p.T.length
 ·have g:=ao b
  repeat'(first|refine gD ?_|(conv=>whnf);first|with_reducible (first|refine CD (aa g) ?_|refine Bf.D (λa=>?_) (λa=>?_))|refine C7 (Jz _) ?_|refine CN ω (aa (gi ω b)) ?_)
  all_goals first
   | exact W0 (λz=>[B z]) ((by symm;unfold eH;rw[cj b (T0 ω)];rfl))
   | ((conv=>whnf);refine CE (i+1) ⟨ω,bJ d (O0 ω)⟩ ω ?_;(exact wB))
 obtain rfl:i=p.T.length:=ω
 repeat'(first|refine gD ?_|(conv=>whnf);first|with_reducible (first|refine Bf.D (λa=>?_) (λa=>?_)|refine Bf.NB (λa=>?_) (λa=>?_)|refine Bf.N (λa=>?_) (λa=>?_))|refine C7 (aP _ 0 31) ?_)
 all_goals exact W0 (λz=>[B z]) ((by unfold eH;rw[d];simp only[Bool.true_and];first|(symm;exact T0 ω)|exact decide_eq_decide.2 ω|(rw[O4];simp;omega)))
theorem xi(j:cM)(a:cM.sml j):ar Tryz.prog 233 false [.val (some 5) (cM.enc .V j)] .one [B (jH j)]:=by
 have e:j.X.T.length<=1048576:=a;have b:=ur j.X a;cases c:eH j.X<;>rw[c]at b
 all_goals
  refine fO 20 [] Tryz.func233 rfl ?_
  repeat'(first|refine gO ?_|(conv=>whnf);first|with_reducible refine Bf.D (λd=>?_) (λd=>?_)|refine C7 b ?_|refine C7 (aH _ 0 5) ?_|refine C7 (aH _ 0 _) ?_)
  all_goals exact W0 (λz=>[B z]) ((by unfold jH;rw[c];first|rfl|(symm;exact T0 ω)|(rw[O4];simp;omega)))
theorem EW(j:cM)(a:cM.sml j):ar Tryz.prog 81 false [.val (some 5) (cM.enc .V j)] .one [B (jH j)]:=by
 have e:j.X.T.length<=1048576:=a;have b:=DV j.X a;cases c:eH j.X<;>rw[c]at b
 all_goals
  refine fO 20 [] Tryz.func81 rfl ?_
  repeat'(first|refine gO ?_|(conv=>whnf);first|with_reducible refine Bf.D (λd=>?_) (λd=>?_)|refine C7 b ?_|refine C7 (aP _ 0 5) ?_|refine C7 (aP _ 0 _) ?_)
  all_goals exact W0 (λz=>[B z]) ((by unfold jH;rw[c];first|rfl|(symm;exact T0 ω)|(rw[O4];simp;omega)))
theorem kI(l:a7)(k:Nat):lpgs l (k+1)=lpgs l k++[l.Q+(k:Nat)]:=by
 unfold lpgs;rw[List.range_succ,t5];rfl
theorem Ej(l:a7)(k:Nat):(lpgs l k).length=k:=by unfold lpgs;simp
theorem Lv(l:a7){k n:Nat}(h:k<=n):lpgs l k <+: lpgs l n:=by
 induction n with
 | zero=>
  obtain rfl:k=0:=ω
  exact List.prefix_refl _
 | succ n b=>
  rcases Nat.lt_or_ge n k with a|a
  ·obtain rfl:k=n+1:=ω
   exact List.prefix_refl _
  rw[kI];exact(b a).trans (List.prefix_append ..)
theorem oZ(sp:List ax){la:List a7}{i:Nat}{l:a7}(h:la[i]? = some l):pgs sp (la.take (i+1))=pgs sp (la.take i)++lpgs l l.a2.toNat:=by
 unfold pgs;rw[Y4,h,List.flatMap_append];simp
theorem NN(sp:List ax)(la:List a7)(i:Nat):pgs sp (la.take i) <+: pgs sp la:=by
 unfold pgs;refine(List.prefix_append_right_inj _).2 ?_
 conv=>rhs;rw[<-List.take_append_drop i la,List.flatMap_append]
 exact List.prefix_append ..
theorem Mm{S all:List Int}{p:Int}(h:(S++[p]) <+: all)(b:p∈S):decide all.Nodup=false:=by
 refine T0 λc=>?_
 have a:=c.sublist h.sublist;rw[List.nodup_append]at a;exact a.2.2 p b p (by simp) rfl
theorem l7{S:List Int}{p:Int}(h:S.Nodup)(b:p∉S):(S++[p]).Nodup:=by
 rw[List.nodup_append];exact⟨h,by simp,λx c y a e=>by simp at a;subst a;subst e;exact b c⟩
theorem Ds{sp:List ax}{la:List a7}{i:Nat}{s:ax}(h:sp[i]? = some s):((sp.take i).map (·.Q)++[s.Q]) <+: pgs sp la:=by
 have a:(sp.take i).map (·.Q)++[s.Q]=(sp.take (i+1)).map (·.Q):=by rw[Y4,h];simp
 rw[a];refine List.IsPrefix.trans ?_ (List.prefix_append ..);rw[Y3];exact List.take_prefix ..
theorem zC{sp:List ax}{la:List a7}{i k:Nat}{l:a7}(h:la[i]? = some l)(a:k<l.a2.toNat):(pgs sp (la.take i)++lpgs l k++[l.Q+(k:Nat)]) <+: pgs sp la:=by
 refine List.IsPrefix.trans ?_ (NN sp la (i+1));rw[oZ sp h,Z4,<-kI];exact(List.prefix_append_right_inj _).2 (Lv l a)
theorem pV{sp:List ax}{la:List a7}{i:Nat}{s:ax}(h:sp[i]? = some s)(a:bg s=false):bm sp la=false:=by
 unfold bm;rw[eN h a];rfl
theorem ow{sp:List ax}{la:List a7}{i:Nat}{l:a7}(h:la[i]? = some l)(a:bC l=false):bm sp la=false:=by
 unfold bm;rw[eN h a];simp
theorem kx{sp:List ax}{la:List a7}{S:List Int}{p:Int}(h:(S++[p]) <+: pgs sp la)(a:p∈S):bm sp la=false:=by
 unfold bm;rw[Mm h a];simp
theorem sv{sp:List ax}{la:List a7}(h1:sp.all bg=true)(a:la.all bC=true)(b:(pgs sp la).Nodup):bm sp la=true:=by
 unfold bm;rw[h1,a,O0 b];rfl
theorem aM{l:a7}(h:bC l=true):1<=l.a2/\l.a2<=63/\0<=l.Q/\l.Q<=31:=by
 unfold bC at h;simp only[C0]at h;omega
theorem mb(sp:List ax)(la:List a7)(t:d9 sp)(u:d6 la):ar Tryz.prog 225 false [.val none (bY .V sp),.val none (bS .V la)] .one [B (bm sp la)]:=by
 have J:=t.1;have K:=u.1;refine fO 79 [] Tryz.func225 rfl ?_
 repeat'(first|refine gO ?_|fail)
 (conv=>whnf)
 refine CF (ι:=Nat × List Int) (λi=>[(0,.H .one (bY .V sp)),(1,.H .one (bS .V la)),(5,.H .one (aG .own i.2)),(6,.H .one [I ((i.1:Nat):Int)])]) (λi=>i.1<=sp.length/\i.2=(sp.take i.1).map (·.Q)/\(sp.take i.1).all bg=true/\i.2.Nodup) (λi=>sp.length - i.1) ((0,[])) ?_ (⟨U0 _,rfl,rfl,List.nodup_nil⟩) λi p=>?_
 ·exact wB
 obtain⟨i,S⟩:=i;obtain⟨p,o,h,l⟩:=p;simp only at p o h l |-;have L:S.length=i:=by rw[o,Z0,R1];omega
 by_cases w:i<sp.length
 ·have a:=ao w
  have n:=fA (nth sp i);cases j:bg (nth sp i)<;>rw[j]at n
  ·repeat'(first|refine gD ?_|(conv=>whnf);first|with_reducible refine CD (aa a) ?_|refine C7 n ?_)
   exact W0 (λz=>[B z]) ((pV a j).symm)
  repeat'(first|refine gD ?_|(conv=>whnf);first|with_reducible (first|refine CD (aa a) ?_|refine Bf.D (λy=>?_) (λy=>?_))|refine C7 n ?_|refine CH (mC S _ ω) ⟨⟨rfl,dZ _⟩,⟨rfl,rfl⟩,trivial⟩ ?_|refine CT cA (λr E=>by rw[I1.1 E];rfl) (by simp[aW,dP]) (by simp;omega) (by simp only[Z0];exact xY (by simp;omega) (by decide)) rfl ?_)
  all_goals first
   | exact W0 (λz=>[B z]) ((kx (S:=S) (by rw[o];exact Ds a) (by assumption)).symm)
   | ((conv=>whnf)
      refine CE (i+1,S++[(nth sp i).Q]) ⟨(by simp only;omega),(by simp only;rw[o,Y4,a];simp),(cR a h j),l7 l (by assumption)⟩ (by simp only;omega) ?_
      (repeat'(first|exact trivial|rfl|exact CL rfl (CL (W0 (C.s dI.own) (by simp[rI])) trivial)|refine CL ?_ ?_)))
 obtain rfl:i=sp.length:=ω
 rw[U4]at h o
 repeat'(first|refine gD ?_|fail)
 (conv=>whnf)
 refine CF (ι:=Nat × List Int) (λi=>[(1,.H .one (bS .V la)),(5,.H .one (aG .own i.2)),(7,.H .one [I ((i.1:Nat):Int)])]) (λi=>i.1<=la.length/\i.2=pgs sp (la.take i.1)/\(la.take i.1).all bC=true/\i.2.Nodup/\i.2.length<=1048576+64*i.1) (λi=>la.length - i.1) ((0,S)) ?_ (⟨U0 _,by rw[o];unfold pgs;simp,rfl,l,by simp only;omega⟩) λi p=>?_
 ·exact wB
 obtain⟨i,S2⟩:=i;obtain⟨F,c,b,d,G⟩:=p;simp only at F c b d G |-;by_cases w:i<la.length
 ·have a:=ao w
  have n:=nC (nth la i);cases j:bC (nth la i)<;>rw[j]at n
  ·repeat'(first|refine gD ?_|(conv=>whnf);first|with_reducible refine CD (aa a) ?_|refine C7 n ?_)
   exact W0 (λz=>[B z]) ((ow a j).symm)
  have M:=aM j
  repeat'(first|refine gD ?_|(conv=>whnf);first|with_reducible refine CD (aa a) ?_|refine C7 n ?_)
  (conv=>whnf)
  refine CF (ι:=Nat × List Int) (λk=>[(1,.H .one (bS .V la)),(5,.H .one (aG .own k.2)),(7,.H .one [I ((i:Nat):Int)]),(8,.H .one [I ((k.1:Nat):Int)])]) (λk=>k.1<=(nth la i).a2.toNat/\k.2=S2++lpgs (nth la i) k.1/\k.2.Nodup) (λk=>(nth la i).a2.toNat - k.1) ((0,S2)) ?_ (⟨U0 _,by simp[lpgs],d⟩) λk H=>?_
  ·exact wB
  obtain⟨k,q⟩:=k;obtain⟨H,e,g⟩:=H;simp only at H e g |-;have N:q.length=S2.length+k:=by rw[e,z3,Ej]
  by_cases O:k<(nth la i).a2.toNat
  ·repeat'(first|refine gD ?_|(conv=>whnf);first|with_reducible (first|refine CD (aa a) ?_|refine Bf.D (λy=>?_) (λy=>?_))|refine CH (mC q _ ω) ⟨⟨rfl,dZ _⟩,⟨rfl,rfl⟩,trivial⟩ ?_|refine CT cA (λr E=>by rw[I1.1 E];rfl) (by simp[aW,dP]) (by simp;omega) (by show _*8<=_;simp;omega) rfl ?_)
   all_goals first
    | exact W0 (λz=>[B z]) ((kx (S:=q) (by rw[e,c];exact zC a O) (by assumption)).symm)
    | ((conv=>whnf)
       refine CE (k+1,q++[(nth la i).Q+(k:Nat)]) ⟨(by simp only;omega),(by simp only;rw[e,kI,Z4]),l7 g (by assumption)⟩ (by simp only;omega) ?_
       (repeat'(first|exact trivial|rfl|exact CL rfl (CL (W0 (C.s dI.own) (by simp[rI])) trivial)|refine CL ?_ ?_)))
  obtain rfl:k=(nth la i).a2.toNat:=ω
  repeat'(first|refine gD ?_|(conv=>whnf);first|with_reducible refine CD (aa a) ?_)
  ((conv=>whnf);refine CE (i+1,q) ⟨(by simp only;omega),(by simp only;rw[e,c,<-oZ sp a]),(cR a b j),g,(by simp only;omega)⟩ (by simp only;omega) ?_;(exact wB))
 obtain rfl:i=la.length:=ω
 rw[U4]at b c
 repeat'(first|refine gD ?_|fail)
 exact W0 (λz=>[B z]) ((sv h b (by rw[<-c];exact d)).symm)
def ins(S:List Int)(p:Int):List Int:=if p∈S then S else S++[p]
theorem GH{p:Int} : ∀{S:List Int},p∈S->mput (fB S) p (.bool true)=fB S
 | x::S,h=>by
  simp only[fB,z5,mput];by_cases a:x=p
  ·rw[C9 a,a]
  rw[C8 a];have:=GH (S:=S) ((List.mem_cons.1 h).resolve_left λe=>a e.symm);simp only[fB]at this;rw[this]
theorem xn(S:List Int)(p:Int):fB (ins S p)=mput (fB S) p (.bool true):=by
 unfold ins;split
 ·rw[GH (by assumption)]
 rw[tl (by assumption)]
theorem KH(S:List Int)(p:Int):aS Tryz.prog 239 false [.val none [I p],.ptr [.m (fB S)]] [.val none [I p],.ptr [.m (fB (ins S p))]] .one [B (decide (p∉S))]:=by
 refine fM 12 [] [] [(0,0),(0,0)] Tryz.func239 rfl (λu q=>?_)
 repeat'(first|refine gO ?_|(conv=>whnf);first|refine Ml.mk (mK p S) ?_|refine Mu.mk (xn S p) ?_)
 refine CG rfl ?_ ?_
 ·exact W0 (λz=>[B z]) (by simp)
 exact wB
theorem lT(sp:List ax)(la:List a7)(t:d9 sp)(u:d6 la):ar Tryz.prog 73 false [.val none (bY .V sp),.val none (bS .V la)] .one [B (bm sp la)]:=by
 have F:=t.1;have G:=u.1;refine fP 54 [(239,[0,2])] [] Tryz.func73 rfl ?_
 repeat'(first|refine gO ?_|fail)
 (conv=>whnf)
 refine CF (ι:=Nat × List Int) (λi=>[(1,.H .one (bS .V la)),(5,.H .box [.m (fB i.2)]),(6,.fn 239 [5]),(14,.H .one (bY .V sp)),(15,.H .one [I (sp.length)]),(16,.H .one [I ((i.1:Nat):Int)])]) (λi=>i.1<=sp.length/\i.2=(sp.take i.1).map (·.Q)/\(sp.take i.1).all bg=true/\i.2.Nodup) (λi=>sp.length - i.1) ((0,[])) ?_ (⟨U0 _,rfl,rfl,List.nodup_nil⟩) λi p=>?_
 ·exact wB
 obtain⟨i,S⟩:=i;obtain⟨p,q,h,n⟩:=p;simp only at p q h n |-;by_cases w:i<sp.length
 ·have c:=ao w
  have o:=i6 (nth sp i);cases l:bg (nth sp i)<;>rw[l]at o
  ·repeat'(first|refine gD ?_|(conv=>whnf);first|with_reducible refine CD (aa c) ?_|refine C7 o ?_)
   exact W0 (λz=>[B z]) ((pV c l).symm)
  repeat'(first|refine gD ?_|(conv=>whnf);first|with_reducible (first|refine CD (aa c) ?_|refine Bf.D (λy=>?_) (λy=>?_))|refine C7 o ?_|refine CK (KH S _) (.inl rfl) ?_)
  all_goals first
   | exact W0 (λz=>[B z]) ((kx (S:=S) (by rw[q];exact Ds c) (by grind)).symm)
   |(have a:(nth sp i).Q∉S:=by assumption
     (conv=>whnf)
     refine CE (i+1,ins S (nth sp i).Q) ⟨(by simp only;omega),(by simp only;unfold ins;rw[C8 a,q,Y4,c];simp),(cR c h l),(by simp only;unfold ins;rw[C8 a];exact l7 n a)⟩ (by simp only;omega) ?_
     (exact wA))
 obtain rfl:i=sp.length:=ω
 rw[U4]at h q
 repeat'(first|refine gD ?_|fail)
 (conv=>whnf)
 refine CF (ι:=Nat × List Int) (λi=>[(5,.H .box [.m (fB i.2)]),(6,.fn 239 [5]),(31,.H .one (bS .V la)),(32,.H .one [I (la.length)]),(33,.H .one [I ((i.1:Nat):Int)])]) (λi=>i.1<=la.length/\i.2=pgs sp (la.take i.1)/\(la.take i.1).all bC=true/\i.2.Nodup) (λi=>la.length - i.1) ((0,S)) ?_ (⟨U0 _,by rw[q];unfold pgs;simp,rfl,n⟩) λi p=>?_
 ·exact wB
 obtain⟨i,S2⟩:=i;obtain⟨C,d,b,e⟩:=p;simp only at C d b e |-;by_cases w:i<la.length
 ·have c:=ao w
  have o:=rK (nth la i);cases l:bC (nth la i)<;>rw[l]at o
  ·repeat'(first|refine gD ?_|(conv=>whnf);first|with_reducible refine CD (aa c) ?_|refine C7 o ?_)
   exact W0 (λz=>[B z]) ((ow c l).symm)
  have H:=aM l
  repeat'(first|refine gD ?_|(conv=>whnf);first|with_reducible refine CD (aa c) ?_|refine C7 o ?_)
  (conv=>whnf)
  refine CF (ι:=Nat × List Int) (λk=>[(5,.H .box [.m (fB k.2)]),(6,.fn 239 [5]),(10,.H .box (a7.enc .V (nth la i))),(11,.H .one [I ((k.1:Nat):Int)]),(31,.H .one (bS .V la)),(32,.H .one [I (la.length)]),(33,.H .one [I ((i:Nat):Int)])]) (λk=>k.1<=(nth la i).a2.toNat/\k.2=S2++lpgs (nth la i) k.1/\k.2.Nodup) (λk=>(nth la i).a2.toNat - k.1) ((0,S2)) ?_ (⟨U0 _,by simp[lpgs],e⟩) λk E=>?_
  ·exact wB
  obtain⟨k,r⟩:=k;obtain⟨E,j,g⟩:=E;simp only at E j g |-;by_cases J:k<(nth la i).a2.toNat
  ·repeat'(first|refine gD ?_|(conv=>whnf);first|with_reducible refine Bf.D (λy=>?_) (λy=>?_)|refine CK (KH r _) (.inl rfl) ?_)
   all_goals first
    | exact W0 (λz=>[B z]) ((kx (S:=r) (by rw[j,d];exact zC c J) (by grind)).symm)
    |(have a:(nth la i).Q+(k:Nat)∉r:=by assumption
      (conv=>whnf)
      refine CE (k+1,ins r ((nth la i).Q+(k:Nat))) ⟨(by simp only;omega),(by simp only;unfold ins;rw[C8 a,j,kI,Z4]),(by simp only;unfold ins;rw[C8 a];exact l7 g a)⟩ (by simp only;omega) ?_
      (exact wA))
  obtain rfl:k=(nth la i).a2.toNat:=ω
  repeat'(first|refine gD ?_|fail)
  ((conv=>whnf);refine CE (i+1,r) ⟨(by simp only;omega),(by simp only;rw[j,d,<-oZ sp c]),(cR c b l),g⟩ (by simp only;omega) ?_;(exact wB))
 obtain rfl:i=la.length:=ω
 rw[U4]at b d
 repeat'(first|refine gD ?_|fail)
 exact W0 (λz=>[B z]) ((sv h b (by rw[<-d];exact e)).symm)
theorem aB{s:ax}(h:bg s=true):0<=s.Q/\s.Q<=31/\0<=s.a/\s.a<=3:=by
 unfold bg at h;simp only[C0]at h;omega
theorem bE{k:Int}(h:0<=k/\k<=3):csz k=1\/csz k=2\/csz k=4\/csz k=8:=by
 obtain rfl|rfl|rfl|rfl:k=0\/k=1\/k=2\/k=3:=ω
 all_goals decide
theorem lg{x y:Int}(h:0<=x):x.tdiv y=x / y:=Int.tdiv_eq_ediv_of_nonneg h
theorem gw{x y:Int}(h:0<=x):x.tmod y=x % y:=Int.tmod_eq_emod_of_nonneg h
def S2(p:Int × Int):List C:=[I p.1,I p.2]
theorem za{a b:Int}{p:Int × Int}(h:(a,b)=p):[I a,I b]=S2 p:=by subst h;rfl
theorem uw(s:ax)(a:Int)(k:mI a):ar Tryz.prog 476 false [.val (some 3) (ax.enc .V s),.val none [I a]] (.tup [none,none]) (S2 (iO s a)):=by
 have g:=fA s;have l:=de s.a;obtain⟨n,o⟩:=k;cases b:bg s<;>rw[b]at g
 ·refine fO 33 [(4,12,[23,24,25,26,27,28,29,30,31,32,4,5])] Tryz.func476 rfl ?_ (.inr ⟨trivial,trivial,trivial⟩)
  repeat'(first|refine gO ?_|(conv=>whnf);first|refine C7 g ?_)
  exact za (by unfold iO cu;rw[b];rfl)
 have h:=aB b;have i:=bE ⟨h.2.2.1,h.2.2.2⟩;by_cases c:16*s.Q<=a/\a<=16*s.Q+15
 ·have j:0<=a:=ω
  refine fO 33 [(4,12,[23,24,25,26,27,28,29,30,31,32,4,5])] Tryz.func476 rfl ?_ (.inr ⟨trivial,trivial,trivial⟩)
  repeat'(first|refine gD ?_|(conv=>whnf);first|with_reducible refine Bf.N (λd=>?_) (λd=>?_)|refine C7 g ?_|refine C7 l ?_|refine CO (by decide) ?_|refine CO ω ?_|refine CM ((W0 _ (lg j)).trans (eQ ω ω)) ?_|refine CU (gw j) ?_|refine CM ((W0 _ (lg ω)).trans (eQ (by rcases i with e|e|e|e<;>rw[e]<;>omega) (by rcases i with e|e|e|e<;>rw[e]<;>omega))) ?_|refine CU (gw ω) ?_)
  all_goals first
   |(exfalso;omega)
   |exact za (by unfold iO cu;rw[b,O0 c];show _=((a - 16*s.Q) / csz s.a,(a - 16*s.Q) % csz s.a);rw[show a % 16=a - 16*s.Q by omega])
 refine fO 33 [(4,12,[23,24,25,26,27,28,29,30,31,32,4,5])] Tryz.func476 rfl ?_ (.inr ⟨trivial,trivial,trivial⟩)
 repeat'(first|refine gO ?_|(conv=>whnf);first|with_reducible (first|refine Bf.D (λd=>?_) (λd=>?_)|refine Bf.N (λd=>?_) (λd=>?_))|refine C7 g ?_|refine CO (by decide) ?_|refine CM ((W0 _ (lg ω)).trans (eQ ω ω)) ?_)
 all_goals first
  |exact za (by unfold iO cu;rw[b,T0 c];rfl)
  |(exfalso;omega)
theorem BL(s:ax)(a:Int):ar Tryz.prog 260 false [.val (some 3) (ax.enc .V s),.val none [I a]] (.tup [none,none]) (S2 (iO s a)):=by
 have d:=i6 s;have j:=cJ s.a;cases b:bg s<;>rw[b]at d
 ·refine fO 38 [(4,12,[28,29,30,31,32,33,34,35,36,37,4,5])] Tryz.func260 rfl ?_ (.inr ⟨trivial,trivial,trivial⟩)
  repeat'(first|refine gO ?_|(conv=>whnf);first|refine C7 d ?_)
  exact za (by unfold iO cu;rw[b];rfl)
 have h:=aB b;have i:=bE ⟨h.2.2.1,h.2.2.2⟩;by_cases c:16*s.Q<=a/\a<=16*s.Q+15
 ·refine fO 38 [(4,12,[28,29,30,31,32,33,34,35,36,37,4,5])] Tryz.func260 rfl ?_ (.inr ⟨trivial,trivial,trivial⟩)
  repeat'(first|refine gD ?_|(conv=>whnf);first|with_reducible refine Bf.D (λg=>?_) (λg=>?_)|refine C7 d ?_|refine C7 j ?_|refine C7 (aP _ _ _) ?_|refine CO ω ?_|refine CM ((W0 _ (lg ω)).trans (eQ (by rcases i with e|e|e|e<;>rw[e]<;>omega) (by rcases i with e|e|e|e<;>rw[e]<;>omega))) ?_|refine CU (gw ω) ?_)
  all_goals exact za (by unfold iO cu;rw[b,O0 c];show _=((a - 16*s.Q) / csz s.a,(a - 16*s.Q) % csz s.a);rw[show a - s.Q*16=a - 16*s.Q by omega])
 refine fO 38 [(4,12,[28,29,30,31,32,33,34,35,36,37,4,5])] Tryz.func260 rfl ?_ (.inr ⟨trivial,trivial,trivial⟩)
 repeat'(first|refine gD ?_|(conv=>whnf);first|with_reducible refine Bf.D (λg=>?_) (λg=>?_)|refine C7 d ?_|refine C7 (aP _ _ _) ?_)
 all_goals exact za (by unfold iO cu;rw[b,T0 c];rfl)
theorem pK(b i:Int):ar Tryz.prog 539 false [.val none [I b],.val none [I i]] .one [B (decide (0<=b/\0<=i/\i<=15))]:=by
 refine fO 11 [] Tryz.func539 rfl ?_
 repeat'(first|refine gO ?_|(conv=>whnf);first|with_reducible refine Bf.D (λa=>?_) (λa=>?_)|refine C7 (aH _ 0 15) ?_)
 all_goals exact W0 (λz=>[B z]) ((by first|(symm;exact T0 ω)|exact decide_eq_decide.2 ω))
theorem zx(b i:Int):ar Tryz.prog 396 false [.val none [I b],.val none [I i]] .one [B (decide (0<=b/\0<=i/\i<=15))]:=by
 refine fO 11 [] Tryz.func396 rfl ?_
 repeat'(first|refine gO ?_|(conv=>whnf);first|with_reducible refine Bf.D (λa=>?_) (λa=>?_)|refine C7 (aP _ 0 15) ?_)
 all_goals exact W0 (λz=>[B z]) ((by first|(symm;exact T0 ω)|exact decide_eq_decide.2 ω))
theorem KK{b i:Int}(a:0<=b/\b<=9223372036854775807)(e:0<=i/\i<=15):b.fdiv (2 ^ min i.toNat IntKind.i64.bits)=b / 2 ^ i.toNat/\0<=b / 2 ^ i.toNat/\b / 2 ^ i.toNat<=9223372036854775807:=by
 have d:min i.toNat IntKind.i64.bits=i.toNat:=Nat.min_eq_left (show i.toNat<=64 by omega);rw[d];have c:(0:Int)<=2 ^ i.toNat:=Int.pow_nonneg (by decide);refine⟨Int.fdiv_eq_ediv_of_nonneg _ c,Int.ediv_nonneg a.1 c,?_⟩;have:=Int.ediv_le_self (2 ^ i.toNat:Int) a.1;omega
theorem wY{b i:Int}(a:0<=b)(e:0<=i/\i<=15):((((b / 2 ^ i.toNat).toNat &&& (1:Int).toNat:Nat):Int) == 1)=aQ b i:=by
 have c:(0:Int)<=b / 2 ^ i.toNat:=Int.ediv_nonneg a (Int.pow_nonneg (by decide));have d:(b / 2 ^ i.toNat).toNat &&& (1:Int).toNat=(b / 2 ^ i.toNat).toNat % 2:=Nat.and_one_is_mod _;rw[d];unfold aQ;generalize b / 2 ^ i.toNat=q at c |-;rw[O4,beq_iff_eq,C0];omega
theorem g9(b i:Int)(c:b<=9223372036854775807):ar Tryz.prog 477 false [.val none [I b],.val none [I i]] .one [B (aQ b i)]:=by
 by_cases h:0<=b/\0<=i/\i<=15
 ·obtain⟨d,g⟩:=KK (b:=b) (i:=i) ⟨h.1,c⟩ h.2
  have j:IntKind.u64.wrap i=i:=by unfold IntKind.wrap;simp[IntKind.signed,IntKind.bits];omega
  refine fO 16 [] Tryz.func477 rfl ?_
  repeat'(first|refine gD ?_|(conv=>whnf);first|with_reducible refine Bf.D (λa=>?_) (λa=>?_)|refine C7 (pK _ _) ?_|refine CO ω ?_|refine CM j ?_|refine CU d ?_|refine CM (and64 g ⟨by decide,by decide⟩) ?_)
  all_goals exact W0 (λz=>[B z]) ((wY h.1 h.2))
 refine fO 16 [] Tryz.func477 rfl ?_
 repeat'(first|refine gD ?_|(conv=>whnf);first|with_reducible refine Bf.D (λa=>?_) (λa=>?_)|refine C7 (pK _ _) ?_)
 all_goals exact W0 (λz=>[B z]) ((by unfold aQ;symm;exact T0 λe=>h ⟨e.1,e.2.1,e.2.2.1⟩))
theorem ny(b i:Int)(c:b<=9223372036854775807):ar Tryz.prog 261 false [.val none [I b],.val none [I i]] .one [B (aQ b i)]:=by
 by_cases h:0<=b/\0<=i/\i<=15
 ·obtain⟨d,g⟩:=KK (b:=b) (i:=i) ⟨h.1,c⟩ h.2
  refine fO 15 [] Tryz.func261 rfl ?_
  repeat'(first|refine gD ?_|(conv=>whnf);first|with_reducible refine Bf.D (λa=>?_) (λa=>?_)|refine C7 (zx _ _) ?_|refine CO ω ?_|refine CU d ?_|refine CM (and64 g ⟨by decide,by decide⟩) ?_)
  all_goals exact W0 (λz=>[B z]) ((wY h.1 h.2))
 refine fO 15 [] Tryz.func261 rfl ?_
 repeat'(first|refine gD ?_|(conv=>whnf);first|with_reducible refine Bf.D (λa=>?_) (λa=>?_)|refine C7 (zx _ _) ?_)
 all_goals exact W0 (λz=>[B z]) ((by unfold aQ;symm;exact T0 λe=>h ⟨e.1,e.2.1,e.2.2.1⟩))
theorem cK{l:a7}(h:bC l=true):9<=l.o/\l.o<=1000/\0<=l.Q/\l.Q<=31:=by
 unfold bC at h;simp only[C0]at h;omega
theorem qj(l:a7)(a:Int):ar Tryz.prog 478 false [.val (some 3) (a7.enc .V l),.val none [I a]] .one [B (aY l a)]:=by
 have c:=nC l;cases b:bC l<;>rw[b]at c
 ·refine fO 24 [] Tryz.func478 rfl ?_
  repeat'(first|refine gO ?_|(conv=>whnf);first|refine C7 c ?_)
  exact W0 (λz=>[B z]) ((by unfold aY;rw[b];rfl))
 have e:=cK b;refine fO 24 [] Tryz.func478 rfl ?_
 repeat'(first|refine gO ?_|(conv=>whnf);first|with_reducible refine Bf.D (λd=>?_) (λd=>?_)|refine C7 c ?_)
 all_goals exact W0 (λz=>[B z]) ((by unfold aY;rw[b,Bool.true_and];first|(symm;exact T0 ω)|exact decide_eq_decide.2 ω))
theorem mj(l:a7)(a:Int):ar Tryz.prog 259 false [.val (some 3) (a7.enc .V l),.val none [I a]] .one [B (aY l a)]:=by
 have c:=rK l;cases b:bC l<;>rw[b]at c
 ·refine fO 21 [] Tryz.func259 rfl ?_
  repeat'(first|refine gO ?_|(conv=>whnf);first|refine C7 c ?_)
  exact W0 (λz=>[B z]) ((by unfold aY;rw[b];rfl))
 have e:=cK b;refine fO 21 [] Tryz.func259 rfl ?_
 repeat'(first|refine gO ?_|(conv=>whnf);first|with_reducible refine Bf.D (λd=>?_) (λd=>?_)|refine C7 c ?_|refine C7 (aP _ _ _) ?_)
 all_goals exact W0 (λz=>[B z]) ((by unfold aY;rw[b,Bool.true_and];exact decide_eq_decide.2 ω))
theorem tB(l:a7)(a:Int)(h:aY l a=true):ar Tryz.prog 479 false [.val (some 3) (a7.enc .V l),.val none [I a]] .one [I (a - 16*l.Q)]:=by
 have b:=qj l a;rw[h]at b;unfold aY at h;simp only[I0,C0]at h;have c:=cK h.1;refine fO 14 [] Tryz.func479 rfl ?_
 repeat'(first|refine gO ?_|(conv=>whnf);first|refine C7 b ?_)
 exact W0 (λz=>[I z]) ω
theorem tA(l:a7)(a:Int)(h:aY l a=true):ar Tryz.prog 262 false [.val (some 3) (a7.enc .V l),.val none [I a]] .one [I (a - 16*l.Q)]:=by
 have b:=mj l a;rw[h]at b;unfold aY at h;simp only[I0,C0]at h;have c:=cK h.1;refine fO 14 [] Tryz.func262 rfl ?_
 repeat'(first|refine gO ?_|(conv=>whnf);first|refine C7 b ?_)
 exact W0 (λz=>[I z]) ω
theorem pv{m:aL}{i:Nat}(a:i<m.U.length)(h:gx m i=false):bI m=false:=by
 unfold bI;rw[cj a h];simp
theorem wx{m:aL}(h:¬(1<=m.U.length/\m.U.length<=4/\m.a0.length=m.U.length)):bI m=false:=by
 unfold bI;rw[T0 h];rfl
theorem xb{m:aL}(h1:1<=m.U.length/\m.U.length<=4/\m.a0.length=m.U.length)(a:cQ m.U.length (gx m)=true):bI m=decide (bt m m.U.length<=30):=by
 unfold bI;rw[O0 h1,a];rfl
theorem lA(m:aL)(h:aL.sml m):ar Tryz.prog 145 false [.val (some 2) (aL.enc .V m)] .one [B (bI m)]:=by
 have u:m.U.length<=1048576:=h.1.1;have w:m.a0.length<=1048576:=h.2.1;by_cases n:1<=m.U.length/\m.U.length<=4/\m.a0.length=m.U.length
 ·refine fO 92 [(19,15,[75,76,77,78,79,80,81,82,83,84,85,86,87,88,89])] Tryz.func145 rfl ?_
  repeat'(first|refine gA ?_|(conv=>whnf);first|with_reducible (first|refine Bf.D (λa=>?_) (λa=>?_)|refine Bf.N (λa=>?_) (λa=>?_))|refine C7 (aH _ 1 4) ?_)
  (conv=>whnf)
  refine CF (ι:=Nat) (λi=>[(1,.H .box (aL.enc .V m)),(3,.H .one [I (m.U.length)]),(4,.H .one [I (bt m i)]),(5,.H .one [I ((i:Nat):Int)])]) (λi=>i<=m.U.length/\cQ i (gx m)=true/\0<=bt m i/\bt m i<=2097152*i) (λi=>m.U.length - i) (0) ?_ (⟨U0 _,rfl,by simp[bt],by simp[bt]⟩) λi o=>?_
  ·exact wB
  obtain⟨o,p,G,H⟩:=o;by_cases j:i<m.U.length
  ·have l:=ao j
   have q:=ao (xs:=m.a0) (i:=i) ω;have y:(nth m.U i).length<=1048576:=(h.1.2 _ (am j)).1;have C:(nth m.a0 i).length<=1048576:=h.2.2 _ (am ω)
   repeat'(first|refine gD ?_|fail)
   (conv=>whnf)
   refine CF (ι:=Nat) (λk=>[(1,.H .box (aL.enc .V m)),(3,.H .one [I (m.U.length)]),(4,.H .one [I (bt m i)]),(5,.H .one [I ((i:Nat):Int)]),(6,.H .one [I ((k:Nat):Int)])]) (λk=>k<=(nth m.U i).length/\((nth m.U i).take k).all (np m.U.length)=true) (λk=>(nth m.U i).length - k) (0) ?_ (⟨U0 _,rfl⟩) λk r=>?_
   ·exact wB
   obtain⟨r,t⟩:=r;by_cases E:k<(nth m.U i).length
   ·have c:=ao E
    repeat'(first|refine gD ?_|(conv=>whnf);first|with_reducible (first|refine CD (aa l) ?_|refine CD (aa c) ?_|refine Bf.D (λa=>?_) (λa=>?_))|refine C7 (aH _ 0 _) ?_)
    all_goals first
     | exact W0 (λz=>[B z]) ((pv j (by unfold gx;rw[eN c (by unfold np;exact T0 ω)];rfl)).symm)
     | ((conv=>whnf);refine CE (k+1) ⟨ω,cR c t (by unfold np;exact O0 ω)⟩ ω ?_;(exact wB))
   have F:=gy ω t
   repeat'(first|refine gD ?_|(conv=>whnf);first|with_reducible refine CD (aa l) ?_)
   (conv=>whnf)
   refine CF (ι:=Nat) (λb=>[(1,.H .box (aL.enc .V m)),(3,.H .one [I (m.U.length)]),(4,.H .one [I (bt m i)]),(5,.H .one [I ((i:Nat):Int)]),(8,.H .one [I ((b:Nat):Int)])]) (λb=>b<=(nth m.a0 i).length/\((nth m.a0 i).take b).all NK=true) (λb=>(nth m.a0 i).length - b) (0) ?_ (⟨U0 _,rfl⟩) λb e=>?_
   ·exact wB
   obtain⟨e,ak2⟩:=e;by_cases lk2:b<(nth m.a0 i).length
   ·have c:=ao lk2
    repeat'(first|refine gD ?_|(conv=>whnf);first|with_reducible (first|refine CD (aa q) ?_|refine CD (aa c) ?_|refine Bf.D (λa=>?_) (λa=>?_)))
    all_goals first
     | exact W0 (λz=>[B z]) ((pv j (by unfold gx;rw[eN c (by unfold NK;exact T0 ω)];simp)).symm)
     | ((conv=>whnf);refine CE (b+1) ⟨ω,cR c ak2 (by unfold NK;exact O0 ω)⟩ ω ?_;(exact wB))
   have ae2:=gy ω ak2;have g:bt m (i+1)=bt m i+((nth m.U i).length+(nth m.a0 i).length):=rfl;have d:bt m (i+1)=bt m i+(nth m.U i).length+(nth m.a0 i).length:=by rw[g];omega
   repeat'(first|refine gD ?_|(conv=>whnf);first|with_reducible (first|refine CD (aa l) ?_|refine CD (aa q) ?_))
   ((conv=>whnf);refine CE (i+1) ⟨ω,bJ p (by unfold gx;rw[F,ae2];rfl),ω,ω⟩ ω ?_)
   rw[d];exact wB
  obtain rfl:i=m.U.length:=ω
  repeat'(first|refine gD ?_|fail)
  exact W0 (λz=>[B z]) ((xb n p).symm)
 refine fO 92 [(19,15,[75,76,77,78,79,80,81,82,83,84,85,86,87,88,89])] Tryz.func145 rfl ?_
 repeat'(first|refine gO ?_|(conv=>whnf);first|with_reducible (first|refine Bf.D (λa=>?_) (λa=>?_)|refine Bf.N (λa=>?_) (λa=>?_))|refine C7 (aH _ 1 4) ?_)
 all_goals first
  | exact W0 (λz=>[B z]) ((wx n).symm)
  |(exfalso;omega)
theorem uQ(m:aL)(g:aL.sml m):ar Tryz.prog 75 false [.val (some 2) (aL.enc .V m)] .one [B (bI m)]:=by
 have t:m.U.length<=1048576:=g.1.1;have u:m.a0.length<=1048576:=g.2.1;by_cases n:1<=m.U.length/\m.U.length<=4/\m.a0.length=m.U.length
 ·refine fO 82 [(20,15,[64,65,66,67,68,69,70,71,72,73,74,75,76,77,78])] Tryz.func75 rfl ?_
  repeat'(first|refine gA ?_|(conv=>whnf);first|with_reducible (first|refine Bf.D (λa=>?_) (λa=>?_)|refine Bf.N (λa=>?_) (λa=>?_))|refine C7 (aP _ 1 4) ?_)
  (conv=>whnf)
  refine CF (ι:=Nat) (λi=>[(1,.H .box (aL.enc .V m)),(3,.H .one [I (m.U.length)]),(4,.H .one [I (bt m i)]),(25,.H .one [I (m.U.length)]),(26,.H .one [I ((i:Nat):Int)])]) (λi=>i<=m.U.length/\cQ i (gx m)=true/\0<=bt m i/\bt m i<=2097152*i) (λi=>m.U.length - i) (0) ?_ (⟨U0 _,rfl,by simp[bt],by simp[bt]⟩) λi o=>?_
  ·exact wB
  obtain⟨o,p,F,G⟩:=o;by_cases h:i<m.U.length
  ·have j:=ao h
   have l:=ao (xs:=m.a0) (i:=i) ω;have w:(nth m.U i).length<=1048576:=(g.1.2 _ (am h)).1;have y:(nth m.a0 i).length<=1048576:=g.2.2 _ (am ω)
   repeat'(first|refine gD ?_|(conv=>whnf);first|with_reducible refine CD (aa j) ?_)
   (conv=>whnf)
   refine CF (ι:=Nat) (λk=>[(1,.H .box (aL.enc .V m)),(3,.H .one [I (m.U.length)]),(4,.H .one [I (bt m i)]),(5,.H .one [I ((i:Nat):Int)]),(25,.H .one [I (m.U.length)]),(26,.H .one [I ((i:Nat):Int)]),(33,.H .one (dm .V (nth m.U i))),(34,.H .one [I ((nth m.U i).length)]),(35,.H .one [I ((k:Nat):Int)])]) (λk=>k<=(nth m.U i).length/\((nth m.U i).take k).all (np m.U.length)=true) (λk=>(nth m.U i).length - k) (0) ?_ (⟨U0 _,rfl⟩) λk q=>?_
   ·exact wB
   obtain⟨q,r⟩:=q;by_cases C:k<(nth m.U i).length
   ·have c:=ao C
    repeat'(first|refine gD ?_|(conv=>whnf);first|with_reducible (first|refine CD (aa j) ?_|refine CD (aa c) ?_|refine Bf.D (λa=>?_) (λa=>?_))|refine C7 (aP _ 0 _) ?_)
    all_goals first
     | exact W0 (λz=>[B z]) ((pv h (by unfold gx;rw[eN c (by unfold np;exact T0 ω)];rfl)).symm)
     | ((conv=>whnf);refine CE (k+1) ⟨ω,cR c r (by unfold np;exact O0 ω)⟩ ω ?_;(exact wB))
   have E:=gy ω r
   repeat'(first|refine gD ?_|(conv=>whnf);first|with_reducible (first|refine CD (aa j) ?_|refine CD (aa l) ?_))
   (conv=>whnf)
   refine CF (ι:=Nat) (λb=>[(1,.H .box (aL.enc .V m)),(3,.H .one [I (m.U.length)]),(4,.H .one [I (bt m i)]),(5,.H .one [I ((i:Nat):Int)]),(25,.H .one [I (m.U.length)]),(26,.H .one [I ((i:Nat):Int)]),(55,.H .one (aG .V (nth m.a0 i))),(56,.H .one [I ((nth m.a0 i).length)]),(57,.H .one [I ((b:Nat):Int)])]) (λb=>b<=(nth m.a0 i).length/\((nth m.a0 i).take b).all NK=true) (λb=>(nth m.a0 i).length - b) (0) ?_ (⟨U0 _,rfl⟩) λb d=>?_
   ·exact wB
   obtain⟨d,ak2⟩:=d;by_cases lk2:b<(nth m.a0 i).length
   ·have c:=ao lk2
    repeat'(first|refine gD ?_|(conv=>whnf);first|with_reducible (first|refine CD (aa l) ?_|refine CD (aa c) ?_|refine Bf.D (λa=>?_) (λa=>?_)))
    all_goals first
     | exact W0 (λz=>[B z]) ((pv h (by unfold gx;rw[eN c (by unfold NK;exact T0 ω)];simp)).symm)
     | ((conv=>whnf);refine CE (b+1) ⟨ω,cR c ak2 (by unfold NK;exact O0 ω)⟩ ω ?_;(exact wB))
   have ae2:=gy ω ak2;have e:bt m (i+1)=bt m i+((nth m.U i).length+(nth m.a0 i).length):=rfl
   repeat'(first|refine gD ?_|(conv=>whnf);first|with_reducible (first|refine CD (aa j) ?_|refine CD (aa l) ?_))
   ((conv=>whnf);refine CE (i+1) ⟨ω,bJ p (by unfold gx;rw[E,ae2];rfl),ω,ω⟩ ω ?_)
   rw[e];exact wB
  obtain rfl:i=m.U.length:=ω
  repeat'(first|refine gD ?_|fail)
  exact W0 (λz=>[B z]) ((xb n p).symm)
 refine fO 82 [(20,15,[64,65,66,67,68,69,70,71,72,73,74,75,76,77,78])] Tryz.func75 rfl ?_
 repeat'(first|refine gO ?_|(conv=>whnf);first|with_reducible (first|refine Bf.D (λa=>?_) (λa=>?_)|refine Bf.N (λa=>?_) (λa=>?_))|refine C7 (aP _ 1 4) ?_)
 all_goals first
  | exact W0 (λz=>[B z]) ((wx n).symm)
  |(exfalso;omega)
theorem zH{s:ax}{a:Int}(h:cu s a=false):S2 (iO s a)=[I (-1),I (-1)]:=by
 unfold iO;rw[h];rfl
theorem xh{s:ax}{a:Int}(h:cu s a=true):S2 (iO s a)=[I ((a - 16*s.Q) / csz s.a),I ((a - 16*s.Q) % csz s.a)]:=by
 unfold iO;rw[h];rfl
theorem rE{s:ax}{a:Int}(h:cu s a=true):bg s=true/\0<=(a - 16*s.Q) / csz s.a/\(a - 16*s.Q) / csz s.a<=15:=by
 unfold cu at h;simp only[I0,C0]at h;have b:=aB h.1;refine⟨h.1,?_⟩;rcases bE ⟨b.2.2.1,b.2.2.2⟩ with e|e|e|e<;>rw[e]<;>omega
theorem ns{sp:List ax}{la:List a7}{a:Int}{i:Nat}(b:i<sp.length)(h:cu (nth sp i) a=true)(c:∀(j:Nat)(z:ax),j<i->sp[j]? = some z->cu z a=false):denotes sp la a=og i (nth sp i) a:=by
 unfold denotes;rw[vB (pr:=(cu · a)) (ao b) h c]
theorem me{sp:List ax}{la:List a7}{a:Int}{i n:Nat}(b:sp.length<=n)(c:∀(j:Nat)(z:ax),j<n->sp[j]? = some z->cu z a=false)(d:i<la.length)(h:aY (nth la i) a=true)(e:∀(j:Nat)(z:a7),j<i->la[j]? = some z->aY z a=false) :
  denotes sp la a = ⟨3,i,0,a - 16*(nth la i).Q⟩:=by
 unfold denotes;rw[xj (pr:=(cu · a)) b c,vB (pr:=(aY · a)) (ao d) h e]
theorem wa{sp:List ax}{la:List a7}{a:Int}{n k:Nat}(b:sp.length<=n)(c:∀(j:Nat)(z:ax),j<n->sp[j]? = some z->cu z a=false)(d:la.length<=k)(e:∀(j:Nat)(z:a7),j<k->la[j]? = some z->aY z a=false):denotes sp la a = ⟨0,0,0,0⟩:=by
 unfold denotes;rw[xj (pr:=(cu · a)) b c,xj (pr:=(aY · a)) d e]
theorem nq(sp:List ax)(la:List a7)(a:Int)(e:d9 sp)(g:d6 la)(h:bm sp la=true)(C:mI a):ar Tryz.prog 376 false [.val none (bY .V sp),.val none (bS .V la),.val none [I a]] .agg (jj.enc .own (denotes sp la a)):=by
 have E:=e.1;have F:=g.1;have q:=mb sp la e g;rw[h]at q;refine fO 67 [] Tryz.func376 rfl ?_ (.inr (jj.enc_fr _))
 repeat'(first|refine gO ?_|(conv=>whnf);first|refine C7 q ?_)
 (conv=>whnf)
 refine CF (ι:=Nat) (λi=>[(0,.H .one (bY .V sp)),(1,.H .one (bS .V la)),(2,.H .one [I (a)]),(6,.H .box ([I 0,I 0,I 0,I 0])),(7,.H .one [I ((i:Nat):Int)])]) (λi=>i<=sp.length/\∀(j:Nat)(z:ax),j<i->sp[j]? = some z->cu z a=false) (λi=>sp.length - i) (0) ?_ (⟨U0 _,λj z G=>ω⟩) λi r=>?_
 ·exact wB
 obtain⟨r,l⟩:=r;by_cases t:i<sp.length
 ·have d:=ao t
  have c:=uw (nth sp i) a C;cases b:cu (nth sp i) a with
  | false=>
   rw[zH b]at c
   repeat'(first|refine gD ?_|(conv=>whnf);first|with_reducible (first|refine CD (aa d) ?_|refine Bf.D (λo=>?_) (λo=>?_))|refine C7 c ?_)
   ((conv=>whnf);refine CE (i+1) ⟨ω,d8 (pr:=(cu · a)) d b l⟩ ω ?_;(exact wB))
  | true=>
   rw[xh b]at c;obtain⟨H,J,K⟩:=rE b;have u:=g9 (nth sp i).b1 ((a - 16*(nth sp i).Q) / csz (nth sp i).a) (eB H).2;cases w:aQ (nth sp i).b1 ((a - 16*(nth sp i).Q) / csz (nth sp i).a)<;>rw[w]at u
   all_goals
    repeat'(first|refine gD ?_|(conv=>whnf);first|with_reducible (first|refine CD (aa d) ?_|refine Bf.D (λo=>?_) (λo=>?_))|refine C7 c ?_|refine C7 u ?_)
    all_goals(rw[ns t b l];unfold og;rw[w];rfl)
 repeat'(first|refine gD ?_|fail)
 (conv=>whnf)
 refine CF (ι:=Nat) (λk=>[(1,.H .one (bS .V la)),(2,.H .one [I (a)]),(6,.H .box ([I 0,I 0,I 0,I 0])),(11,.H .one [I ((k:Nat):Int)])]) (λk=>k<=la.length/\∀(j:Nat)(z:a7),j<k->la[j]? = some z->aY z a=false) (λk=>la.length - k) (0) ?_ (⟨U0 _,λj z G=>ω⟩) λk y=>?_
 ·exact wB
 obtain⟨y,p⟩:=y;by_cases B:k<la.length
 ·have d:=ao B
  have c:=qj (nth la k) a;cases b:aY (nth la k) a<;>rw[b]at c
  ·repeat'(first|refine gD ?_|(conv=>whnf);first|with_reducible refine CD (aa d) ?_|refine C7 c ?_)
   ((conv=>whnf);refine CE (k+1) ⟨ω,d8 (pr:=(aY · a)) d b p⟩ ω ?_;(exact wB))
  repeat'(first|refine gD ?_|(conv=>whnf);first|with_reducible refine CD (aa d) ?_|refine C7 c ?_|refine C7 (tB (nth la k) a b) ?_)
  rw[me (n:=i) ω l B b p];rfl
 repeat'(first|refine gD ?_|fail)
 rw[wa (n:=i) (k:=k) ω l ω p];rfl
theorem nE(sp:List ax)(la:List a7)(a:Int)(g:d9 sp)(h:d6 la):ar Tryz.prog 97 false [.val none (bY .V sp),.val none (bS .V la),.val none [I a]] .agg (jj.enc .own (denotes sp la a)):=by
 have y:=g.1;have B:=h.1;refine fO 56 [] Tryz.func97 rfl ?_ (.inr (jj.enc_fr _))
 repeat'(first|refine gO ?_|fail)
 (conv=>whnf)
 refine CF (ι:=Nat) (λi=>[(1,.H .one (bS .V la)),(2,.H .one [I (a)]),(6,.H .box ([I 0,I 0,I 0,I 0])),(14,.H .one (bY .V sp)),(15,.H .one [I (sp.length)]),(16,.H .one [I ((i:Nat):Int)])]) (λi=>i<=sp.length/\∀(j:Nat)(z:ax),j<i->sp[j]? = some z->cu z a=false) (λi=>sp.length - i) (0) ?_ (⟨U0 _,λj z C=>ω⟩) λi p=>?_
 ·exact wB
 obtain⟨p,e⟩:=p;by_cases q:i<sp.length
 ·have d:=ao q
  have c:=BL (nth sp i) a;cases b:cu (nth sp i) a with
  | false=>
   rw[zH b]at c
   repeat'(first|refine gD ?_|(conv=>whnf);first|with_reducible (first|refine CD (aa d) ?_|refine Bf.D (λl=>?_) (λl=>?_))|refine C7 c ?_)
   ((conv=>whnf);refine CE (i+1) ⟨ω,d8 (pr:=(cu · a)) d b e⟩ ω ?_;(exact wB))
  | true=>
   rw[xh b]at c;obtain⟨E,F,G⟩:=rE b;have r:=ny (nth sp i).b1 ((a - 16*(nth sp i).Q) / csz (nth sp i).a) (eB E).2;cases t:aQ (nth sp i).b1 ((a - 16*(nth sp i).Q) / csz (nth sp i).a)<;>rw[t]at r
   all_goals
    repeat'(first|refine gD ?_|(conv=>whnf);first|with_reducible (first|refine CD (aa d) ?_|refine Bf.D (λl=>?_) (λl=>?_))|refine C7 c ?_|refine C7 r ?_)
    all_goals(rw[ns q b e];unfold og;rw[t];rfl)
 repeat'(first|refine gD ?_|fail)
 (conv=>whnf)
 refine CF (ι:=Nat) (λk=>[(2,.H .one [I (a)]),(6,.H .box ([I 0,I 0,I 0,I 0])),(39,.H .one (bS .V la)),(40,.H .one [I (la.length)]),(41,.H .one [I ((k:Nat):Int)])]) (λk=>k<=la.length/\∀(j:Nat)(z:a7),j<k->la[j]? = some z->aY z a=false) (λk=>la.length - k) (0) ?_ (⟨U0 _,λj z C=>ω⟩) λk u=>?_
 ·exact wB
 obtain⟨u,o⟩:=u;by_cases w:k<la.length
 ·have d:=ao w
  have c:=mj (nth la k) a;cases b:aY (nth la k) a<;>rw[b]at c
  ·repeat'(first|refine gD ?_|(conv=>whnf);first|with_reducible refine CD (aa d) ?_|refine C7 c ?_)
   ((conv=>whnf);refine CE (k+1) ⟨ω,d8 (pr:=(aY · a)) d b o⟩ ω ?_;(exact wB))
  repeat'(first|refine gD ?_|(conv=>whnf);first|with_reducible refine CD (aa d) ?_|refine C7 c ?_|refine C7 (tA (nth la k) a b) ?_)
  rw[me (n:=i) ω e w b o];rfl
 repeat'(first|refine gD ?_|fail)
 rw[wa (n:=i) (k:=k) ω e ω o];rfl
section
variable{α:Type}
def ET(ag:Option Nat)(e:α->List C)(pr:α->Bool)(xs:List α):List (Option Nat × List C)->Kd->List C->Prop:=λL k rcs=>∃x,x∈xs/\L=[(ag,e x)]/\k=.one/\rcs=[B (pr x)]
end
theorem vj(xs:List aA)(pr:aA->Bool)(n:xs.length<=9223372036854775807):ar Tryz.prog 490 false [.val none (bQ .V xs),.fn (q9 Tryz.prog (ET (some 2) (aA.enc .V) pr xs))] .one [I (dJ pr xs)]:=by
 refine fO 19 [] Tryz.func490 rfl ?_
 repeat'(first|refine gO ?_|fail)
 (conv=>whnf)
 refine CF (ι:=Nat) (λi=>[(0,.H .one (bQ .V xs)),(1,.fv (q9 Tryz.prog (ET (some 2) (aA.enc .V) pr xs))),(7,.H .one [I xs.length]),(8,.H .one [I (i:Nat)])]) (λi=>i<=xs.length/\∀(j:Nat)(z:aA),j<i->xs[j]? = some z->pr z=false) (λi=>xs.length - i) 0 ?_ ⟨U0 _,λj z h=>ω⟩ λi e=>?_
 ·exact wB
 obtain⟨e,b⟩:=e;by_cases c:i<xs.length
 ·obtain⟨y,a⟩ : ∃y,xs[i]? = some y:=⟨_,Z1 c⟩
  repeat'(first|refine gD ?_|(conv=>whnf);first|with_reducible refine CD (aa a) ?_|refine Fv.mk (k:=.one) (rcs:=[B (pr y)]) ⟨y,V1 a,rfl,rfl,rfl⟩ ?_|refine Bf.P (λl=>?_) (λl=>?_))
  ·exact W0 (λz=>[I z]) (dX a ‹_› b).symm
  (conv=>whnf)
  refine CE (i+1) ⟨ω,λj z h d=>?_⟩ ω ?_
  ·rcases Nat.lt_or_ge j i with g|g
   ·exact b j z g d
   obtain rfl:j=i:=ω
   rw[a]at d;cases d;assumption
  exact wB
 repeat'(first|refine gD ?_|fail)
 exact W0 (λz=>[I z]) (gv ω b).symm
theorem qZ(xs:List aA)(pr:aA->Bool)(a:xs.length<=9223372036854775807):ar Tryz.prog 390 false [.val none (bQ .V xs),.fn (q9 Tryz.prog (ET (some 2) (aA.enc .V) pr xs))] .one [B (xs.any pr)]:=by
 refine fO 9 [] Tryz.func390 rfl ?_
 repeat'(first|refine gO ?_|(conv=>whnf);first|refine C7 (vj xs pr a) ?_)
 exact W0 (λz=>[B z]) (kN pr xs)
theorem uo(r:aA)(page:Int):ar Tryz.prog 391 false [.val (some 2) (aA.enc .V r),.ptr [I page]] .one [B (re page r)]:=by
 refine fO 17 [] Tryz.func391 rfl ?_
 repeat'(first|refine gO ?_|(conv=>whnf);first|with_reducible refine Bf.D (λa=>?_) (λa=>?_)|refine CM rfl ?_)
 all_goals exact W0 (λz=>[B z]) (by unfold re;first|(rw[O0 (by assumption:r.At<=page)];simp;done)|(rw[T0 (by assumption:¬r.At<=page)];rfl))
theorem yy(xs:List aA)(page:Int)(a:xs.length<=9223372036854775807):ar Tryz.prog 243 false [.val none (bQ .V xs),.val none [I page]] .one [B (xs.any (re page))]:=by
 refine fO 8 [] Tryz.func243 rfl ?_
 repeat'(first|refine gO ?_|(conv=>whnf);first|refine Cq.mk (ET (some 2) (aA.enc .V) (re page) xs) (uo default page).has (λL k rcs b=>?_) ?_|refine C7 (qZ xs (re page) a) ?_)
 ·obtain⟨x,-,rfl,rfl,rfl⟩:=b
  exact uo x page
 rfl
end Go.Proofs.YtecefhjnejfheaaGreat.Ab
