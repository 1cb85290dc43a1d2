/- The types of the program as the abstract runs see them. Printed by gen_te.py. No condition. -/
import Derived.Test.YtecefhjnejfheaaGreatKtc
import Derived.KernelRfl
import Derived.Test.YtecefhjnejfheaaGreatProg
set_option linter.unusedVariables false
set_option linter.unusedSimpArgs false
set_option linter.constructorNameAsVariable false
namespace Go.Proofs.YtecefhjnejfheaaGreat.Ab
open Go.RowKit
def HB:List (Nat × TI)->Nat->Option TI
 | [],_=>none
 | p::l,t=>bif Nat.beq t p.1 then some p.2 else HB l t
def Qz(P:Program):List (Nat × TI)->Prop
 | []=>True
 | p::l=>bP P p.1 p.2/\Qz P l
theorem FY{P:Program} : ∀{l:List (Nat × TI)},Qz P l->∀t i,HB l t=some i->bP P t i
 | [],_,t,i,h=>by cases h
 | p::l,b,t,i,h=>by
  simp only[HB]at h;cases a:Nat.beq t p.1 with
  | true=>
   rw[a]at h;simp only[cond_true,X0]at h;have:=Z1 a;subst this h;exact b.1
  | false=>rw[a]at h;exact FY b.2 t i h
def ti3:TI:=⟨1,8,[.v (.int .i64 0)],.sc (.int .i64)⟩
theorem tok3:bP Tryz.prog 3 ti3:=⟨by kernel_rfl,by simp[ti3,aC,Value.oneCell'],⟨Tryz.underlying3,trivial⟩⟩
def ti4:TI:=⟨1,1,[.v (.bool false)],.sc .bool⟩
theorem tok4:bP Tryz.prog 4 ti4:=⟨by kernel_rfl,by simp[ti4,aC,Value.oneCell'],⟨Tryz.underlying4,trivial⟩⟩
def ti2:TI:=⟨1,8,[.v (.int .i64 0)],.sc (.int .i64)⟩
theorem tok2:bP Tryz.prog 2 ti2:=⟨by kernel_rfl,by simp[ti2,aC,Value.oneCell'],⟨Tryz.underlying2,trivial⟩⟩
def ti5:TI:=⟨1,1,[.v (.int .u8 0)],.sc (.int .u8)⟩
theorem tok5:bP Tryz.prog 5 ti5:=⟨by kernel_rfl,by simp[ti5,aC,Value.oneCell'],⟨Tryz.underlying5,trivial⟩⟩
def ti6:TI:=⟨1,1,[.v (.int .u8 0)],.sc (.int .u8)⟩
theorem tok6:bP Tryz.prog 6 ti6:=⟨by kernel_rfl,by simp[ti6,aC,Value.oneCell'],⟨Tryz.underlying6,trivial⟩⟩
def ti7:TI:=⟨4,24,[.v (.int .i64 0),.v (.int .i64 0),.v (.bool false),.v (.int .u8 0)],.st [(0,2),(1,3),(2,4),(3,6)]⟩
theorem tok7:bP Tryz.prog 7 ti7:=⟨by kernel_rfl,by simp[ti7,aC,Value.oneCell'],⟨_,Tryz.underlying7,rfl⟩⟩
def ti8:TI:=⟨4,24,[.v (.int .i64 0),.v (.int .i64 0),.v (.bool false),.v (.int .u8 0)],.st [(0,2),(1,3),(2,4),(3,6)]⟩
theorem tok8:bP Tryz.prog 8 ti8:=⟨by kernel_rfl,by simp[ti8,aC,Value.oneCell'],⟨_,Tryz.underlying8,rfl⟩⟩
def ti9:TI:=⟨1,16,[.v (.string ⟨#[]⟩)],.sc .string⟩
theorem tok9:bP Tryz.prog 9 ti9:=⟨by kernel_rfl,by simp[ti9,aC,Value.oneCell'],⟨Tryz.underlying9,trivial⟩⟩
def ti10:TI:=⟨1,16,[.v (.string ⟨#[]⟩)],.sc .string⟩
theorem tok10:bP Tryz.prog 10 ti10:=⟨by kernel_rfl,by simp[ti10,aC,Value.oneCell'],⟨Tryz.underlying10,trivial⟩⟩
def ti11:TI:=⟨1,16,[.v (.string ⟨#[]⟩)],.sc .string⟩
theorem tok11:bP Tryz.prog 11 ti11:=⟨by kernel_rfl,by simp[ti11,aC,Value.oneCell'],⟨Tryz.underlying11,trivial⟩⟩
def ti12:TI:=⟨1,8,[.v (.int .u64 0)],.sc (.int .u64)⟩
theorem tok12:bP Tryz.prog 12 ti12:=⟨by kernel_rfl,by simp[ti12,aC,Value.oneCell'],⟨Tryz.underlying12,trivial⟩⟩
def ti13:TI:=⟨2,24,[.v (.string ⟨#[]⟩),.v (.int .u64 0)],.st [(0,9),(1,12)]⟩
theorem tok13:bP Tryz.prog 13 ti13:=⟨by kernel_rfl,by simp[ti13,aC,Value.oneCell'],⟨_,Tryz.underlying13,rfl⟩⟩
def ti14:TI:=⟨2,24,[.v (.string ⟨#[]⟩),.v (.int .u64 0)],.st [(0,9),(1,12)]⟩
theorem tok14:bP Tryz.prog 14 ti14:=⟨by kernel_rfl,by simp[ti14,aC,Value.oneCell'],⟨_,Tryz.underlying14,rfl⟩⟩
def ti21:TI:=⟨1,4,[.v (.int .i32 0)],.sc (.int .i32)⟩
theorem tok21:bP Tryz.prog 21 ti21:=⟨by kernel_rfl,by simp[ti21,aC,Value.oneCell'],⟨Tryz.underlying21,trivial⟩⟩
def ti22:TI:=⟨1,24,[.z],.sl 5⟩
theorem tok22:bP Tryz.prog 22 ti22:=⟨by kernel_rfl,by simp[ti22,aC,Value.oneCell'],Tryz.underlying22⟩
def ti24:TI:=⟨1,24,[.z],.sl 33⟩
theorem tok24:bP Tryz.prog 24 ti24:=⟨by kernel_rfl,by simp[ti24,aC,Value.oneCell'],Tryz.underlying24⟩
def ti25:TI:=⟨1,24,[.z],.sl 4⟩
theorem tok25:bP Tryz.prog 25 ti25:=⟨by kernel_rfl,by simp[ti25,aC,Value.oneCell'],Tryz.underlying25⟩
def ti26:TI:=⟨2,48,[.z,.z],.st [(0,24),(1,25)]⟩
theorem tok26:bP Tryz.prog 26 ti26:=⟨by kernel_rfl,by simp[ti26,aC,Value.oneCell'],⟨_,Tryz.underlying26,rfl⟩⟩
def ti27:TI:=⟨2,48,[.z,.z],.st [(0,24),(1,25)]⟩
theorem tok27:bP Tryz.prog 27 ti27:=⟨by kernel_rfl,by simp[ti27,aC,Value.oneCell'],⟨_,Tryz.underlying27,rfl⟩⟩
def ti28:TI:=⟨1,24,[.z],.sl 98⟩
theorem tok28:bP Tryz.prog 28 ti28:=⟨by kernel_rfl,by simp[ti28,aC,Value.oneCell'],Tryz.underlying28⟩
def ti29:TI:=⟨1,24,[.z],.st [(0,28)]⟩
theorem tok29:bP Tryz.prog 29 ti29:=⟨by kernel_rfl,by simp[ti29,aC,Value.oneCell'],⟨_,Tryz.underlying29,rfl⟩⟩
def ti30:TI:=⟨1,24,[.z],.st [(0,28)]⟩
theorem tok30:bP Tryz.prog 30 ti30:=⟨by kernel_rfl,by simp[ti30,aC,Value.oneCell'],⟨_,Tryz.underlying30,rfl⟩⟩
def ti31:TI:=⟨3,72,[.z,.z,.z],.st [(0,27),(2,30)]⟩
theorem tok31:bP Tryz.prog 31 ti31:=⟨by kernel_rfl,by simp[ti31,aC,Value.oneCell'],⟨_,Tryz.underlying31,rfl⟩⟩
def ti32:TI:=⟨3,72,[.z,.z,.z],.st [(0,27),(2,30)]⟩
theorem tok32:bP Tryz.prog 32 ti32:=⟨by kernel_rfl,by simp[ti32,aC,Value.oneCell'],⟨_,Tryz.underlying32,rfl⟩⟩
def ti33:TI:=⟨1,24,[.z],.sl 3⟩
theorem tok33:bP Tryz.prog 33 ti33:=⟨by kernel_rfl,by simp[ti33,aC,Value.oneCell'],Tryz.underlying33⟩
def ti34:TI:=⟨5,104,[.z,.z,.z,.v (.int .i64 0),.z],.st [(0,32),(3,3),(4,33)]⟩
theorem tok34:bP Tryz.prog 34 ti34:=⟨by kernel_rfl,by simp[ti34,aC,Value.oneCell'],⟨_,Tryz.underlying34,rfl⟩⟩
def ti35:TI:=⟨5,104,[.z,.z,.z,.v (.int .i64 0),.z],.st [(0,32),(3,3),(4,33)]⟩
theorem tok35:bP Tryz.prog 35 ti35:=⟨by kernel_rfl,by simp[ti35,aC,Value.oneCell'],⟨_,Tryz.underlying35,rfl⟩⟩
def ti36:TI:=⟨1,24,[.z],.sl 216⟩
theorem tok36:bP Tryz.prog 36 ti36:=⟨by kernel_rfl,by simp[ti36,aC,Value.oneCell'],Tryz.underlying36⟩
def ti37:TI:=⟨1,24,[.z],.sl 167⟩
theorem tok37:bP Tryz.prog 37 ti37:=⟨by kernel_rfl,by simp[ti37,aC,Value.oneCell'],Tryz.underlying37⟩
def ti38:TI:=⟨1,24,[.z],.sl 211⟩
theorem tok38:bP Tryz.prog 38 ti38:=⟨by kernel_rfl,by simp[ti38,aC,Value.oneCell'],Tryz.underlying38⟩
def ti39:TI:=⟨1,24,[.z],.sl 74⟩
theorem tok39:bP Tryz.prog 39 ti39:=⟨by kernel_rfl,by simp[ti39,aC,Value.oneCell'],Tryz.underlying39⟩
def ti40:TI:=⟨1,24,[.z],.sl 152⟩
theorem tok40:bP Tryz.prog 40 ti40:=⟨by kernel_rfl,by simp[ti40,aC,Value.oneCell'],Tryz.underlying40⟩
def ti41:TI:=⟨1,24,[.z],.sl 228⟩
theorem tok41:bP Tryz.prog 41 ti41:=⟨by kernel_rfl,by simp[ti41,aC,Value.oneCell'],Tryz.underlying41⟩
def ti42:TI:=⟨2,48,[.z,.z],.st [(0,41),(1,24)]⟩
theorem tok42:bP Tryz.prog 42 ti42:=⟨by kernel_rfl,by simp[ti42,aC,Value.oneCell'],⟨_,Tryz.underlying42,rfl⟩⟩
def ti43:TI:=⟨2,48,[.z,.z],.st [(0,41),(1,24)]⟩
theorem tok43:bP Tryz.prog 43 ti43:=⟨by kernel_rfl,by simp[ti43,aC,Value.oneCell'],⟨_,Tryz.underlying43,rfl⟩⟩
def ti44:TI:=⟨1,24,[.z],.sl 226⟩
theorem tok44:bP Tryz.prog 44 ti44:=⟨by kernel_rfl,by simp[ti44,aC,Value.oneCell'],Tryz.underlying44⟩
def ti45:TI:=⟨2,32,[.v (.int .i64 0),.z],.st [(0,3),(1,44)]⟩
theorem tok45:bP Tryz.prog 45 ti45:=⟨by kernel_rfl,by simp[ti45,aC,Value.oneCell'],⟨_,Tryz.underlying45,rfl⟩⟩
def ti46:TI:=⟨2,32,[.v (.int .i64 0),.z],.st [(0,3),(1,44)]⟩
theorem tok46:bP Tryz.prog 46 ti46:=⟨by kernel_rfl,by simp[ti46,aC,Value.oneCell'],⟨_,Tryz.underlying46,rfl⟩⟩
def ti47:TI:=⟨3,40,[.v (.int .i64 0),.v (.int .i64 0),.z],.st [(0,3),(1,3),(2,33)]⟩
theorem tok47:bP Tryz.prog 47 ti47:=⟨by kernel_rfl,by simp[ti47,aC,Value.oneCell'],⟨_,Tryz.underlying47,rfl⟩⟩
def ti48:TI:=⟨3,40,[.v (.int .i64 0),.v (.int .i64 0),.z],.st [(0,3),(1,3),(2,33)]⟩
theorem tok48:bP Tryz.prog 48 ti48:=⟨by kernel_rfl,by simp[ti48,aC,Value.oneCell'],⟨_,Tryz.underlying48,rfl⟩⟩
def ti49:TI:=⟨5,56,[.v (.int .i64 0),.v (.int .i64 0),.z,.v (.int .i64 0),.v (.int .i64 0)],.st [(0,48),(3,3),(4,3)]⟩
theorem tok49:bP Tryz.prog 49 ti49:=⟨by kernel_rfl,by simp[ti49,aC,Value.oneCell'],⟨_,Tryz.underlying49,rfl⟩⟩
def ti50:TI:=⟨5,56,[.v (.int .i64 0),.v (.int .i64 0),.z,.v (.int .i64 0),.v (.int .i64 0)],.st [(0,48),(3,3),(4,3)]⟩
theorem tok50:bP Tryz.prog 50 ti50:=⟨by kernel_rfl,by simp[ti50,aC,Value.oneCell'],⟨_,Tryz.underlying50,rfl⟩⟩
def ti51:TI:=⟨24,400,[.z,.z,.z,.v (.int .i64 0),.z,.z,.z,.z,.z,.z,.z,.z,.v (.int .i64 0),.z,.v (.int .i64 0),.v (.int .i64 0),.v (.int .i64 0),.v (.int .i64 0),.v (.bool false),.v (.int .i64 0),.v (.int .i64 0),.z,.v (.int .i64 0),.v (.int .i64 0)],.st [(0,35),(5,36),(6,37),(7,38),(8,39),(9,40),(10,43),(12,46),(14,3),(15,3),(16,3),(17,3),(18,4),(19,50)]⟩
theorem tok51:bP Tryz.prog 51 ti51:=⟨by kernel_rfl,by simp[ti51,aC,Value.oneCell'],⟨_,Tryz.underlying51,rfl⟩⟩
def ti52:TI:=⟨24,400,[.z,.z,.z,.v (.int .i64 0),.z,.z,.z,.z,.z,.z,.z,.z,.v (.int .i64 0),.z,.v (.int .i64 0),.v (.int .i64 0),.v (.int .i64 0),.v (.int .i64 0),.v (.bool false),.v (.int .i64 0),.v (.int .i64 0),.z,.v (.int .i64 0),.v (.int .i64 0)],.st [(0,35),(5,36),(6,37),(7,38),(8,39),(9,40),(10,43),(12,46),(14,3),(15,3),(16,3),(17,3),(18,4),(19,50)]⟩
theorem tok52:bP Tryz.prog 52 ti52:=⟨by kernel_rfl,by simp[ti52,aC,Value.oneCell'],⟨_,Tryz.underlying52,rfl⟩⟩
def ti53:TI:=⟨1,24,[.z],.sl 82⟩
theorem tok53:bP Tryz.prog 53 ti53:=⟨by kernel_rfl,by simp[ti53,aC,Value.oneCell'],Tryz.underlying53⟩
def ti54:TI:=⟨2,32,[.v (.int .i64 0),.z],.st [(0,3),(1,53)]⟩
theorem tok54:bP Tryz.prog 54 ti54:=⟨by kernel_rfl,by simp[ti54,aC,Value.oneCell'],⟨_,Tryz.underlying54,rfl⟩⟩
def ti55:TI:=⟨2,32,[.v (.int .i64 0),.z],.st [(0,3),(1,53)]⟩
theorem tok55:bP Tryz.prog 55 ti55:=⟨by kernel_rfl,by simp[ti55,aC,Value.oneCell'],⟨_,Tryz.underlying55,rfl⟩⟩
def ti56:TI:=⟨26,432,[.z,.z,.z,.v (.int .i64 0),.z,.z,.z,.z,.z,.z,.z,.z,.v (.int .i64 0),.z,.v (.int .i64 0),.v (.int .i64 0),.v (.int .i64 0),.v (.int .i64 0),.v (.bool false),.v (.int .i64 0),.v (.int .i64 0),.z,.v (.int .i64 0),.v (.int .i64 0),.v (.int .i64 0),.z],.st [(0,52),(24,55)]⟩
theorem tok56:bP Tryz.prog 56 ti56:=⟨by kernel_rfl,by simp[ti56,aC,Value.oneCell'],⟨_,Tryz.underlying56,rfl⟩⟩
def ti57:TI:=⟨26,432,[.z,.z,.z,.v (.int .i64 0),.z,.z,.z,.z,.z,.z,.z,.z,.v (.int .i64 0),.z,.v (.int .i64 0),.v (.int .i64 0),.v (.int .i64 0),.v (.int .i64 0),.v (.bool false),.v (.int .i64 0),.v (.int .i64 0),.z,.v (.int .i64 0),.v (.int .i64 0),.v (.int .i64 0),.z],.st [(0,52),(24,55)]⟩
theorem tok57:bP Tryz.prog 57 ti57:=⟨by kernel_rfl,by simp[ti57,aC,Value.oneCell'],⟨_,Tryz.underlying57,rfl⟩⟩
def ti73:TI:=⟨4,32,[.v (.int .i64 0),.v (.int .i64 0),.v (.int .i64 0),.v (.int .i64 0)],.st [(0,3),(1,3),(2,3),(3,3)]⟩
theorem tok73:bP Tryz.prog 73 ti73:=⟨by kernel_rfl,by simp[ti73,aC,Value.oneCell'],⟨_,Tryz.underlying73,rfl⟩⟩
def ti74:TI:=⟨4,32,[.v (.int .i64 0),.v (.int .i64 0),.v (.int .i64 0),.v (.int .i64 0)],.st [(0,3),(1,3),(2,3),(3,3)]⟩
theorem tok74:bP Tryz.prog 74 ti74:=⟨by kernel_rfl,by simp[ti74,aC,Value.oneCell'],⟨_,Tryz.underlying74,rfl⟩⟩
def ti76:TI:=⟨8,64,[.v (.int .i64 0),.v (.int .i64 0),.v (.int .i64 0),.v (.int .i64 0),.v (.int .i64 0),.v (.int .i64 0),.v (.int .i64 0),.v (.int .i64 0)],.st [(0,3),(1,3),(2,3),(3,3),(4,3),(5,3),(6,3),(7,3)]⟩
theorem tok76:bP Tryz.prog 76 ti76:=⟨by kernel_rfl,by simp[ti76,aC,Value.oneCell'],⟨_,Tryz.underlying76,rfl⟩⟩
def ti77:TI:=⟨8,64,[.v (.int .i64 0),.v (.int .i64 0),.v (.int .i64 0),.v (.int .i64 0),.v (.int .i64 0),.v (.int .i64 0),.v (.int .i64 0),.v (.int .i64 0)],.st [(0,3),(1,3),(2,3),(3,3),(4,3),(5,3),(6,3),(7,3)]⟩
theorem tok77:bP Tryz.prog 77 ti77:=⟨by kernel_rfl,by simp[ti77,aC,Value.oneCell'],⟨_,Tryz.underlying77,rfl⟩⟩
def ti79:TI:=⟨1,24,[.z],.sl 84⟩
theorem tok79:bP Tryz.prog 79 ti79:=⟨by kernel_rfl,by simp[ti79,aC,Value.oneCell'],Tryz.underlying79⟩
def ti81:TI:=⟨2,32,[.v (.int .i64 0),.z],.st [(0,3),(1,33)]⟩
theorem tok81:bP Tryz.prog 81 ti81:=⟨by kernel_rfl,by simp[ti81,aC,Value.oneCell'],⟨_,Tryz.underlying81,rfl⟩⟩
def ti82:TI:=⟨2,32,[.v (.int .i64 0),.z],.st [(0,3),(1,33)]⟩
theorem tok82:bP Tryz.prog 82 ti82:=⟨by kernel_rfl,by simp[ti82,aC,Value.oneCell'],⟨_,Tryz.underlying82,rfl⟩⟩
def ti83:TI:=⟨3,24,[.v (.int .i64 0),.v (.int .i64 0),.v (.int .i64 0)],.st [(0,3),(1,3),(2,3)]⟩
theorem tok83:bP Tryz.prog 83 ti83:=⟨by kernel_rfl,by simp[ti83,aC,Value.oneCell'],⟨_,Tryz.underlying83,rfl⟩⟩
def ti84:TI:=⟨3,24,[.v (.int .i64 0),.v (.int .i64 0),.v (.int .i64 0)],.st [(0,3),(1,3),(2,3)]⟩
theorem tok84:bP Tryz.prog 84 ti84:=⟨by kernel_rfl,by simp[ti84,aC,Value.oneCell'],⟨_,Tryz.underlying84,rfl⟩⟩
def ti88:TI:=⟨5,40,[.v (.int .i64 0),.v (.int .i64 0),.v (.int .i64 0),.v (.int .i64 0),.v (.int .i64 0)],.st [(0,3),(1,3),(2,3),(3,3),(4,3)]⟩
theorem tok88:bP Tryz.prog 88 ti88:=⟨by kernel_rfl,by simp[ti88,aC,Value.oneCell'],⟨_,Tryz.underlying88,rfl⟩⟩
def ti89:TI:=⟨5,40,[.v (.int .i64 0),.v (.int .i64 0),.v (.int .i64 0),.v (.int .i64 0),.v (.int .i64 0)],.st [(0,3),(1,3),(2,3),(3,3),(4,3)]⟩
theorem tok89:bP Tryz.prog 89 ti89:=⟨by kernel_rfl,by simp[ti89,aC,Value.oneCell'],⟨_,Tryz.underlying89,rfl⟩⟩
def ti97:TI:=⟨2,16,[.v (.int .i64 0),.v (.int .i64 0)],.st [(0,3),(1,3)]⟩
theorem tok97:bP Tryz.prog 97 ti97:=⟨by kernel_rfl,by simp[ti97,aC,Value.oneCell'],⟨_,Tryz.underlying97,rfl⟩⟩
def ti98:TI:=⟨2,16,[.v (.int .i64 0),.v (.int .i64 0)],.st [(0,3),(1,3)]⟩
theorem tok98:bP Tryz.prog 98 ti98:=⟨by kernel_rfl,by simp[ti98,aC,Value.oneCell'],⟨_,Tryz.underlying98,rfl⟩⟩
def ti101:TI:=⟨2,48,[.z,.z],.st [(0,24),(1,25)]⟩
theorem tok101:bP Tryz.prog 101 ti101:=⟨by kernel_rfl,by simp[ti101,aC,Value.oneCell'],⟨_,Tryz.underlying101,rfl⟩⟩
def ti102:TI:=⟨1,24,[.z],.sl 493⟩
theorem tok102:bP Tryz.prog 102 ti102:=⟨by kernel_rfl,by simp[ti102,aC,Value.oneCell'],Tryz.underlying102⟩
def ti103:TI:=⟨1,24,[.z],.st [(0,102)]⟩
theorem tok103:bP Tryz.prog 103 ti103:=⟨by kernel_rfl,by simp[ti103,aC,Value.oneCell'],⟨_,Tryz.underlying103,rfl⟩⟩
def ti104:TI:=⟨1,24,[.z],.st [(0,102)]⟩
theorem tok104:bP Tryz.prog 104 ti104:=⟨by kernel_rfl,by simp[ti104,aC,Value.oneCell'],⟨_,Tryz.underlying104,rfl⟩⟩
def ti105:TI:=⟨3,72,[.z,.z,.z],.st [(0,101),(2,104)]⟩
theorem tok105:bP Tryz.prog 105 ti105:=⟨by kernel_rfl,by simp[ti105,aC,Value.oneCell'],⟨_,Tryz.underlying105,rfl⟩⟩
def ti106:TI:=⟨3,72,[.z,.z,.z],.st [(0,101),(2,104)]⟩
theorem tok106:bP Tryz.prog 106 ti106:=⟨by kernel_rfl,by simp[ti106,aC,Value.oneCell'],⟨_,Tryz.underlying106,rfl⟩⟩
def ti107:TI:=⟨5,104,[.z,.z,.z,.v (.int .i64 0),.z],.st [(0,106),(3,3),(4,33)]⟩
theorem tok107:bP Tryz.prog 107 ti107:=⟨by kernel_rfl,by simp[ti107,aC,Value.oneCell'],⟨_,Tryz.underlying107,rfl⟩⟩
def ti108:TI:=⟨5,104,[.z,.z,.z,.v (.int .i64 0),.z],.st [(0,106),(3,3),(4,33)]⟩
theorem tok108:bP Tryz.prog 108 ti108:=⟨by kernel_rfl,by simp[ti108,aC,Value.oneCell'],⟨_,Tryz.underlying108,rfl⟩⟩
def ti109:TI:=⟨1,24,[.z],.sl 351⟩
theorem tok109:bP Tryz.prog 109 ti109:=⟨by kernel_rfl,by simp[ti109,aC,Value.oneCell'],Tryz.underlying109⟩
def ti110:TI:=⟨1,24,[.z],.sl 353⟩
theorem tok110:bP Tryz.prog 110 ti110:=⟨by kernel_rfl,by simp[ti110,aC,Value.oneCell'],Tryz.underlying110⟩
def ti111:TI:=⟨1,24,[.z],.sl 355⟩
theorem tok111:bP Tryz.prog 111 ti111:=⟨by kernel_rfl,by simp[ti111,aC,Value.oneCell'],Tryz.underlying111⟩
def ti112:TI:=⟨1,24,[.z],.sl 357⟩
theorem tok112:bP Tryz.prog 112 ti112:=⟨by kernel_rfl,by simp[ti112,aC,Value.oneCell'],Tryz.underlying112⟩
def ti113:TI:=⟨1,24,[.z],.sl 344⟩
theorem tok113:bP Tryz.prog 113 ti113:=⟨by kernel_rfl,by simp[ti113,aC,Value.oneCell'],Tryz.underlying113⟩
def ti114:TI:=⟨1,24,[.z],.sl 431⟩
theorem tok114:bP Tryz.prog 114 ti114:=⟨by kernel_rfl,by simp[ti114,aC,Value.oneCell'],Tryz.underlying114⟩
def ti115:TI:=⟨2,48,[.z,.z],.st [(0,114),(1,24)]⟩
theorem tok115:bP Tryz.prog 115 ti115:=⟨by kernel_rfl,by simp[ti115,aC,Value.oneCell'],⟨_,Tryz.underlying115,rfl⟩⟩
def ti116:TI:=⟨2,48,[.z,.z],.st [(0,114),(1,24)]⟩
theorem tok116:bP Tryz.prog 116 ti116:=⟨by kernel_rfl,by simp[ti116,aC,Value.oneCell'],⟨_,Tryz.underlying116,rfl⟩⟩
def ti117:TI:=⟨1,24,[.z],.sl 436⟩
theorem tok117:bP Tryz.prog 117 ti117:=⟨by kernel_rfl,by simp[ti117,aC,Value.oneCell'],Tryz.underlying117⟩
def ti118:TI:=⟨2,32,[.v (.int .i64 0),.z],.st [(0,3),(1,117)]⟩
theorem tok118:bP Tryz.prog 118 ti118:=⟨by kernel_rfl,by simp[ti118,aC,Value.oneCell'],⟨_,Tryz.underlying118,rfl⟩⟩
def ti119:TI:=⟨2,32,[.v (.int .i64 0),.z],.st [(0,3),(1,117)]⟩
theorem tok119:bP Tryz.prog 119 ti119:=⟨by kernel_rfl,by simp[ti119,aC,Value.oneCell'],⟨_,Tryz.underlying119,rfl⟩⟩
def ti120:TI:=⟨3,40,[.v (.int .i64 0),.v (.int .i64 0),.z],.st [(0,3),(1,3),(2,33)]⟩
theorem tok120:bP Tryz.prog 120 ti120:=⟨by kernel_rfl,by simp[ti120,aC,Value.oneCell'],⟨_,Tryz.underlying120,rfl⟩⟩
def ti121:TI:=⟨5,56,[.v (.int .i64 0),.v (.int .i64 0),.z,.v (.int .i64 0),.v (.int .i64 0)],.st [(0,120),(3,3),(4,3)]⟩
theorem tok121:bP Tryz.prog 121 ti121:=⟨by kernel_rfl,by simp[ti121,aC,Value.oneCell'],⟨_,Tryz.underlying121,rfl⟩⟩
def ti122:TI:=⟨5,56,[.v (.int .i64 0),.v (.int .i64 0),.z,.v (.int .i64 0),.v (.int .i64 0)],.st [(0,120),(3,3),(4,3)]⟩
theorem tok122:bP Tryz.prog 122 ti122:=⟨by kernel_rfl,by simp[ti122,aC,Value.oneCell'],⟨_,Tryz.underlying122,rfl⟩⟩
def ti123:TI:=⟨24,400,[.z,.z,.z,.v (.int .i64 0),.z,.z,.z,.z,.z,.z,.z,.z,.v (.int .i64 0),.z,.v (.int .i64 0),.v (.int .i64 0),.v (.int .i64 0),.v (.int .i64 0),.v (.bool false),.v (.int .i64 0),.v (.int .i64 0),.z,.v (.int .i64 0),.v (.int .i64 0)],.st [(0,108),(5,109),(6,110),(7,111),(8,112),(9,113),(10,116),(12,119),(14,3),(15,3),(16,3),(17,3),(18,4),(19,122)]⟩
theorem tok123:bP Tryz.prog 123 ti123:=⟨by kernel_rfl,by simp[ti123,aC,Value.oneCell'],⟨_,Tryz.underlying123,rfl⟩⟩
def ti124:TI:=⟨24,400,[.z,.z,.z,.v (.int .i64 0),.z,.z,.z,.z,.z,.z,.z,.z,.v (.int .i64 0),.z,.v (.int .i64 0),.v (.int .i64 0),.v (.int .i64 0),.v (.int .i64 0),.v (.bool false),.v (.int .i64 0),.v (.int .i64 0),.z,.v (.int .i64 0),.v (.int .i64 0)],.st [(0,108),(5,109),(6,110),(7,111),(8,112),(9,113),(10,116),(12,119),(14,3),(15,3),(16,3),(17,3),(18,4),(19,122)]⟩
theorem tok124:bP Tryz.prog 124 ti124:=⟨by kernel_rfl,by simp[ti124,aC,Value.oneCell'],⟨_,Tryz.underlying124,rfl⟩⟩
def ti151:TI:=⟨1,24,[.z],.st [(0,24)]⟩
theorem tok151:bP Tryz.prog 151 ti151:=⟨by kernel_rfl,by simp[ti151,aC,Value.oneCell'],⟨_,Tryz.underlying151,rfl⟩⟩
def ti152:TI:=⟨1,24,[.z],.st [(0,24)]⟩
theorem tok152:bP Tryz.prog 152 ti152:=⟨by kernel_rfl,by simp[ti152,aC,Value.oneCell'],⟨_,Tryz.underlying152,rfl⟩⟩
def ti166:TI:=⟨3,24,[.v (.int .i64 0),.v (.int .i64 0),.v (.int .i64 0)],.st [(0,3),(1,3),(2,3)]⟩
theorem tok166:bP Tryz.prog 166 ti166:=⟨by kernel_rfl,by simp[ti166,aC,Value.oneCell'],⟨_,Tryz.underlying166,rfl⟩⟩
def ti167:TI:=⟨3,24,[.v (.int .i64 0),.v (.int .i64 0),.v (.int .i64 0)],.st [(0,3),(1,3),(2,3)]⟩
theorem tok167:bP Tryz.prog 167 ti167:=⟨by kernel_rfl,by simp[ti167,aC,Value.oneCell'],⟨_,Tryz.underlying167,rfl⟩⟩
def ti168:TI:=⟨4,32,[.v (.int .i64 0),.v (.int .i64 0),.v (.int .i64 0),.v (.int .i64 0)],.st [(0,3),(1,3),(2,3),(3,3)]⟩
theorem tok168:bP Tryz.prog 168 ti168:=⟨by kernel_rfl,by simp[ti168,aC,Value.oneCell'],⟨_,Tryz.underlying168,rfl⟩⟩
def ti169:TI:=⟨4,32,[.v (.int .i64 0),.v (.int .i64 0),.v (.int .i64 0),.v (.int .i64 0)],.st [(0,3),(1,3),(2,3),(3,3)]⟩
theorem tok169:bP Tryz.prog 169 ti169:=⟨by kernel_rfl,by simp[ti169,aC,Value.oneCell'],⟨_,Tryz.underlying169,rfl⟩⟩
def ti195:TI:=⟨1,24,[.z],.sl 201⟩
theorem tok195:bP Tryz.prog 195 ti195:=⟨by kernel_rfl,by simp[ti195,aC,Value.oneCell'],Tryz.underlying195⟩
def ti200:TI:=⟨2,16,[.v (.int .i64 0),.v (.int .i64 0)],.st [(0,3),(1,3)]⟩
theorem tok200:bP Tryz.prog 200 ti200:=⟨by kernel_rfl,by simp[ti200,aC,Value.oneCell'],⟨_,Tryz.underlying200,rfl⟩⟩
def ti201:TI:=⟨2,16,[.v (.int .i64 0),.v (.int .i64 0)],.st [(0,3),(1,3)]⟩
theorem tok201:bP Tryz.prog 201 ti201:=⟨by kernel_rfl,by simp[ti201,aC,Value.oneCell'],⟨_,Tryz.underlying201,rfl⟩⟩
def ti210:TI:=⟨3,24,[.v (.int .i64 0),.v (.int .i64 0),.v (.int .i64 0)],.st [(0,3),(1,3),(2,3)]⟩
theorem tok210:bP Tryz.prog 210 ti210:=⟨by kernel_rfl,by simp[ti210,aC,Value.oneCell'],⟨_,Tryz.underlying210,rfl⟩⟩
def ti211:TI:=⟨3,24,[.v (.int .i64 0),.v (.int .i64 0),.v (.int .i64 0)],.st [(0,3),(1,3),(2,3)]⟩
theorem tok211:bP Tryz.prog 211 ti211:=⟨by kernel_rfl,by simp[ti211,aC,Value.oneCell'],⟨_,Tryz.underlying211,rfl⟩⟩
def ti215:TI:=⟨2,16,[.v (.int .i64 0),.v (.int .i64 0)],.st [(0,3),(1,3)]⟩
theorem tok215:bP Tryz.prog 215 ti215:=⟨by kernel_rfl,by simp[ti215,aC,Value.oneCell'],⟨_,Tryz.underlying215,rfl⟩⟩
def ti216:TI:=⟨2,16,[.v (.int .i64 0),.v (.int .i64 0)],.st [(0,3),(1,3)]⟩
theorem tok216:bP Tryz.prog 216 ti216:=⟨by kernel_rfl,by simp[ti216,aC,Value.oneCell'],⟨_,Tryz.underlying216,rfl⟩⟩
def ti221:TI:=⟨2,16,[.v (.int .i64 0),.v (.int .i64 0)],.st [(0,3),(1,3)]⟩
theorem tok221:bP Tryz.prog 221 ti221:=⟨by kernel_rfl,by simp[ti221,aC,Value.oneCell'],⟨_,Tryz.underlying221,rfl⟩⟩
def ti222:TI:=⟨2,16,[.v (.int .i64 0),.v (.int .i64 0)],.st [(0,3),(1,3)]⟩
theorem tok222:bP Tryz.prog 222 ti222:=⟨by kernel_rfl,by simp[ti222,aC,Value.oneCell'],⟨_,Tryz.underlying222,rfl⟩⟩
def ti225:TI:=⟨3,24,[.v (.int .i64 0),.v (.int .i64 0),.v (.int .i64 0)],.st [(0,3),(1,3),(2,3)]⟩
theorem tok225:bP Tryz.prog 225 ti225:=⟨by kernel_rfl,by simp[ti225,aC,Value.oneCell'],⟨_,Tryz.underlying225,rfl⟩⟩
def ti226:TI:=⟨3,24,[.v (.int .i64 0),.v (.int .i64 0),.v (.int .i64 0)],.st [(0,3),(1,3),(2,3)]⟩
theorem tok226:bP Tryz.prog 226 ti226:=⟨by kernel_rfl,by simp[ti226,aC,Value.oneCell'],⟨_,Tryz.underlying226,rfl⟩⟩
def ti228:TI:=⟨1,24,[.z],.sl 222⟩
theorem tok228:bP Tryz.prog 228 ti228:=⟨by kernel_rfl,by simp[ti228,aC,Value.oneCell'],Tryz.underlying228⟩
def ti259:TI:=⟨5,56,[.v (.int .i64 0),.v (.int .i64 0),.v (.int .i64 0),.v (.int .i64 0),.z],.st [(0,3),(1,3),(2,3),(3,3),(4,33)]⟩
theorem tok259:bP Tryz.prog 259 ti259:=⟨by kernel_rfl,by simp[ti259,aC,Value.oneCell'],⟨_,Tryz.underlying259,rfl⟩⟩
def ti260:TI:=⟨5,56,[.v (.int .i64 0),.v (.int .i64 0),.v (.int .i64 0),.v (.int .i64 0),.z],.st [(0,3),(1,3),(2,3),(3,3),(4,33)]⟩
theorem tok260:bP Tryz.prog 260 ti260:=⟨by kernel_rfl,by simp[ti260,aC,Value.oneCell'],⟨_,Tryz.underlying260,rfl⟩⟩
def ti262:TI:=⟨1,24,[.z],.sl 89⟩
theorem tok262:bP Tryz.prog 262 ti262:=⟨by kernel_rfl,by simp[ti262,aC,Value.oneCell'],Tryz.underlying262⟩
def ti264:TI:=⟨3,40,[.z,.v (.int .i64 0),.v (.int .i64 0)],.st [(0,22),(1,3),(2,3)]⟩
theorem tok264:bP Tryz.prog 264 ti264:=⟨by kernel_rfl,by simp[ti264,aC,Value.oneCell'],⟨_,Tryz.underlying264,rfl⟩⟩
def ti265:TI:=⟨3,40,[.z,.v (.int .i64 0),.v (.int .i64 0)],.st [(0,22),(1,3),(2,3)]⟩
theorem tok265:bP Tryz.prog 265 ti265:=⟨by kernel_rfl,by simp[ti265,aC,Value.oneCell'],⟨_,Tryz.underlying265,rfl⟩⟩
def ti288:TI:=⟨1,8,[.v (.map none)],.mp 3 4 (.bool false)⟩
theorem tok288:bP Tryz.prog 288 ti288:=⟨by kernel_rfl,by simp[ti288,aC,Value.oneCell'],⟨Tryz.underlying288,Tryz.underlying3,by kernel_rfl,rfl⟩⟩
def ti295:TI:=⟨1,8,[.v (.map none)],.mp 3 3 (.int .i64 0)⟩
theorem tok295:bP Tryz.prog 295 ti295:=⟨by kernel_rfl,by simp[ti295,aC,Value.oneCell'],⟨Tryz.underlying295,Tryz.underlying3,by kernel_rfl,rfl⟩⟩
def ti309:TI:=⟨1,8,[.v (.int .u64 0)],.sc (.int .u64)⟩
theorem tok309:bP Tryz.prog 309 ti309:=⟨by kernel_rfl,by simp[ti309,aC,Value.oneCell'],⟨Tryz.underlying309,trivial⟩⟩
def ti344:TI:=⟨1,24,[.z],.st [(0,24)]⟩
theorem tok344:bP Tryz.prog 344 ti344:=⟨by kernel_rfl,by simp[ti344,aC,Value.oneCell'],⟨_,Tryz.underlying344,rfl⟩⟩
def ti351:TI:=⟨2,16,[.v (.int .i64 0),.v (.int .i64 0)],.st [(0,3),(1,3)]⟩
theorem tok351:bP Tryz.prog 351 ti351:=⟨by kernel_rfl,by simp[ti351,aC,Value.oneCell'],⟨_,Tryz.underlying351,rfl⟩⟩
def ti353:TI:=⟨3,24,[.v (.int .i64 0),.v (.int .i64 0),.v (.int .i64 0)],.st [(0,3),(1,3),(2,3)]⟩
theorem tok353:bP Tryz.prog 353 ti353:=⟨by kernel_rfl,by simp[ti353,aC,Value.oneCell'],⟨_,Tryz.underlying353,rfl⟩⟩
def ti355:TI:=⟨3,24,[.v (.int .i64 0),.v (.int .i64 0),.v (.int .i64 0)],.st [(0,3),(1,3),(2,3)]⟩
theorem tok355:bP Tryz.prog 355 ti355:=⟨by kernel_rfl,by simp[ti355,aC,Value.oneCell'],⟨_,Tryz.underlying355,rfl⟩⟩
def ti357:TI:=⟨4,32,[.v (.int .i64 0),.v (.int .i64 0),.v (.int .i64 0),.v (.int .i64 0)],.st [(0,3),(1,3),(2,3),(3,3)]⟩
theorem tok357:bP Tryz.prog 357 ti357:=⟨by kernel_rfl,by simp[ti357,aC,Value.oneCell'],⟨_,Tryz.underlying357,rfl⟩⟩
def ti400:TI:=⟨1,8,[.v (.int .i64 0)],.sc (.int .i64)⟩
theorem tok400:bP Tryz.prog 400 ti400:=⟨by kernel_rfl,by simp[ti400,aC,Value.oneCell'],⟨Tryz.underlying400,trivial⟩⟩
def ti407:TI:=⟨1,4,[.v (.int .u32 0)],.sc (.int .u32)⟩
theorem tok407:bP Tryz.prog 407 ti407:=⟨by kernel_rfl,by simp[ti407,aC,Value.oneCell'],⟨Tryz.underlying407,trivial⟩⟩
def ti409:TI:=⟨1,8,[.v (.int .u64 0)],.sc (.int .u64)⟩
theorem tok409:bP Tryz.prog 409 ti409:=⟨by kernel_rfl,by simp[ti409,aC,Value.oneCell'],⟨Tryz.underlying409,trivial⟩⟩
def ti431:TI:=⟨1,24,[.z],.sl 479⟩
theorem tok431:bP Tryz.prog 431 ti431:=⟨by kernel_rfl,by simp[ti431,aC,Value.oneCell'],Tryz.underlying431⟩
def ti436:TI:=⟨3,24,[.v (.int .i64 0),.v (.int .i64 0),.v (.int .i64 0)],.st [(0,3),(1,3),(2,3)]⟩
theorem tok436:bP Tryz.prog 436 ti436:=⟨by kernel_rfl,by simp[ti436,aC,Value.oneCell'],⟨_,Tryz.underlying436,rfl⟩⟩
def ti461:TI:=⟨1,8,[.v (.int .u64 0)],.sc (.int .u64)⟩
theorem tok461:bP Tryz.prog 461 ti461:=⟨by kernel_rfl,by simp[ti461,aC,Value.oneCell'],⟨Tryz.underlying461,trivial⟩⟩
def ti479:TI:=⟨2,16,[.v (.int .i64 0),.v (.int .i64 0)],.st [(0,3),(1,3)]⟩
theorem tok479:bP Tryz.prog 479 ti479:=⟨by kernel_rfl,by simp[ti479,aC,Value.oneCell'],⟨_,Tryz.underlying479,rfl⟩⟩
def ti493:TI:=⟨2,16,[.v (.int .i64 0),.v (.int .i64 0)],.st [(0,3),(1,3)]⟩
theorem tok493:bP Tryz.prog 493 ti493:=⟨by kernel_rfl,by simp[ti493,aC,Value.oneCell'],⟨_,Tryz.underlying493,rfl⟩⟩
def ti510:TI:=⟨0,0,[],.st [(0,509)]⟩
theorem tok510:bP Tryz.prog 510 ti510:=⟨by kernel_rfl,by simp[ti510,aC,Value.oneCell'],⟨_,Tryz.underlying510,rfl⟩⟩
def ti511:TI:=⟨0,0,[],.st [(0,509)]⟩
theorem tok511:bP Tryz.prog 511 ti511:=⟨by kernel_rfl,by simp[ti511,aC,Value.oneCell'],⟨_,Tryz.underlying511,rfl⟩⟩
def ti513:TI:=⟨1,1,[.v (.int .u8 0)],.sc (.int .u8)⟩
theorem tok513:bP Tryz.prog 513 ti513:=⟨by kernel_rfl,by simp[ti513,aC,Value.oneCell'],⟨Tryz.underlying513,trivial⟩⟩
def ti514:TI:=⟨1,1,[.v (.int .u8 0)],.sc (.int .u8)⟩
theorem tok514:bP Tryz.prog 514 ti514:=⟨by kernel_rfl,by simp[ti514,aC,Value.oneCell'],⟨Tryz.underlying514,trivial⟩⟩
def ti517:TI:=⟨1,4,[.v (.int .i32 0)],.sc (.int .i32)⟩
theorem tok517:bP Tryz.prog 517 ti517:=⟨by kernel_rfl,by simp[ti517,aC,Value.oneCell'],⟨Tryz.underlying517,trivial⟩⟩
def ti518:TI:=⟨1,4,[.v (.int .i32 0)],.sc (.int .i32)⟩
theorem tok518:bP Tryz.prog 518 ti518:=⟨by kernel_rfl,by simp[ti518,aC,Value.oneCell'],⟨Tryz.underlying518,trivial⟩⟩
def tab:List (Nat × TI):=[(3,ti3),(4,ti4),(2,ti2),(5,ti5),(6,ti6),(7,ti7),(8,ti8),(9,ti9),(10,ti10),(11,ti11),(12,ti12),(13,ti13),(14,ti14),(21,ti21),(22,ti22),(24,ti24),(25,ti25),(26,ti26),(27,ti27),(28,ti28),(29,ti29),(30,ti30),(31,ti31),(32,ti32),(33,ti33),(34,ti34),(35,ti35),(36,ti36),(37,ti37),(38,ti38),(39,ti39),(40,ti40),(41,ti41),(42,ti42),(43,ti43),(44,ti44),(45,ti45),(46,ti46),(47,ti47),(48,ti48),(49,ti49),(50,ti50),(51,ti51),(52,ti52),(53,ti53),(54,ti54),(55,ti55),(56,ti56),(57,ti57),(73,ti73),(74,ti74),(76,ti76),(77,ti77),(79,ti79),(81,ti81),(82,ti82),(83,ti83),(84,ti84),(88,ti88),(89,ti89),(97,ti97),(98,ti98),(101,ti101),(102,ti102),(103,ti103),(104,ti104),(105,ti105),(106,ti106),(107,ti107),(108,ti108),(109,ti109),(110,ti110),(111,ti111),(112,ti112),(113,ti113),(114,ti114),(115,ti115),(116,ti116),(117,ti117),(118,ti118),(119,ti119),(120,ti120),(121,ti121),(122,ti122),(123,ti123),(124,ti124),(151,ti151),(152,ti152),(166,ti166),(167,ti167),(168,ti168),(169,ti169),(195,ti195),(200,ti200),(201,ti201),(210,ti210),(211,ti211),(215,ti215),(216,ti216),(221,ti221),(222,ti222),(225,ti225),(226,ti226),(228,ti228),(259,ti259),(260,ti260),(262,ti262),(264,ti264),(265,ti265),(288,ti288),(295,ti295),(309,ti309),(344,ti344),(351,ti351),(353,ti353),(355,ti355),(357,ti357),(400,ti400),(407,ti407),(409,ti409),(431,ti431),(436,ti436),(461,ti461),(479,ti479),(493,ti493),(510,ti510),(511,ti511),(513,ti513),(514,ti514),(517,ti517),(518,ti518)]
theorem QR:Qz Tryz.prog tab:=⟨tok3,tok4,tok2,tok5,tok6,tok7,tok8,tok9,tok10,tok11,tok12,tok13,tok14,tok21,tok22,tok24,tok25,tok26,tok27,tok28,tok29,tok30,tok31,tok32,tok33,tok34,tok35,tok36,tok37,tok38,tok39,tok40,tok41,tok42,tok43,tok44,tok45,tok46,tok47,tok48,tok49,tok50,tok51,tok52,tok53,tok54,tok55,tok56,tok57,tok73,tok74,tok76,tok77,tok79,tok81,tok82,tok83,tok84,tok88,tok89,tok97,tok98,tok101,tok102,tok103,tok104,tok105,tok106,tok107,tok108,tok109,tok110,tok111,tok112,tok113,tok114,tok115,tok116,tok117,tok118,tok119,tok120,tok121,tok122,tok123,tok124,tok151,tok152,tok166,tok167,tok168,tok169,tok195,tok200,tok201,tok210,tok211,tok215,tok216,tok221,tok222,tok225,tok226,tok228,tok259,tok260,tok262,tok264,tok265,tok288,tok295,tok309,tok344,tok351,tok353,tok355,tok357,tok400,tok407,tok409,tok431,tok436,tok461,tok479,tok493,tok510,tok511,tok513,tok514,tok517,tok518,trivial⟩
def TE:Nat->Option TI:=HB tab
theorem Aj:∀t i,TE t=some i->bP Tryz.prog t i:=FY QR
def QU:C->Value->C
 | .s .own rows,v=>.s (.tag v) rows
 | c,_=>c
def zH(u:Nat->Value):Nat->List C->List C
 | _,[]=>[]
 | j,c::cs=>QU c (u j)::zH u (j+1) cs
def xd(u:Nat->Nat->Value):Nat->List MA->List (Nat × AV)
 | _,[]=>[]
 | i,.val a cs::A=>(i,.H (lK a) cs)::xd u (i+1) A
 | i,.mut a cs::A=>(i,.H (lK a) (zH (u i) 0 cs))::xd u (i+1) A
 | i,.ptr cs::A=>(i,.H .box cs)::xd u (i+1) A
def H1(p:Nat->Value):Nat->List MA->List (Nat × Value)
 | _,[]=>[]
 | i,.ptr _::A=>(i,p i)::H1 p (i+1) A
 | i,_::A=>H1 p (i+1) A
def Ey:Nat->List MA->List (Nat × Nat)->List (Option Nat)
 | i,.val _ _::A,_::pl=>none::Ey (i+1) A pl
 | i,.mut _ _::A,p::pl=>some p.1::Ey (i+1) A pl
 | i,.ptr _::A,_::pl=>some i::Ey (i+1) A pl
 | _,_,_=>[]
def G9:List (Option Nat)->Bool
 | []=>true
 | none::l=>G9 l
 | some t::l=>l.all (λx=>match x with|some a=>!Nat.beq t a|none=>true)&&G9 l
def sles:List (Option Nat)->List Nat
 | []=>[]
 | none::l=>sles l
 | some t::l=>t::sles l
def RO(v:Value)(c y o:C):Prop:=
 match c with
 | .s .own _=>(match y with|.s (.tag v') rows=>v'=v/\o=.s .own rows|_=>False)
 | .s (.tag _) _=>False
 | .m _=>False
 | .it _ _=>False
 | c=>o=c
def Qj(u:Nat->Value):Nat->List C->List C->List C->Prop
 | _,[],_,o=>o=[]
 | j,c::cs,y::xs,o::os=>RO (u j) c y o/\Qj u (j+1) cs xs os
 | _,_,_,_=>False
def iG(u:Nat->Nat->Value)(F:Nat->AV):Nat->List MA->List (Nat × Nat)->List MA->Prop
 | _,[],_,[]=>True
 | i,.val _ _::A,_::pl,.val _ _::B=>iG u F (i+1) A pl B
 | i,.mut ag cs::A,p::pl,.mut a out::B=>(a=ag/\match F p.1 with|.H _ xs=>Qj (u i) 0 cs (xs.drop p.2) out|_=>False)/\iG u F (i+1) A pl B
 | i,.ptr _::A,_::pl,.ptr out::B=>(match F i with|.H .box xs=>xs=out|_=>False)/\iG u F (i+1) A pl B
 | _,_,_,_=>False
inductive aV(k k':Kd)(cs cs':List C)(Q:Prop):Prop
 |mk_ (h:k=k'/\cs=cs'/\Q)
theorem aV.mk{k b:Kd}{cs a:List C}{Q:Prop}(h1:k=b)(c:cs=a)(d:Q):aV k b cs a Q:=by refine .mk_ ?_;exact⟨h1,c,d⟩
theorem CF:type_of% @aV.mk:=@aV.mk
theorem aV.out{k b:Kd}{cs a:List C}{Q:Prop}(h:aV k b cs a Q):k=b/\cs=a/\Q:=by obtain⟨h⟩:=h;exact h
def QE(TE:Nat->Option TI)(d:List ResultVar)(k:Kd)(rcs:List C)(u:Nat->Nat->Value)(A B:List MA)(a:List (Nat × Nat)):Exit->(Nat->AV)->Prop:=λe F=>
 match e with
 | .normal=>resA TE F d (sles (Ey 0 A a)) λb c=>aV (ki b) k c rcs (iG u F 0 A a B)
 | .ret=>resA TE F d (sles (Ey 0 A a)) λb c=>aV (ki b) k c rcs (iG u F 0 A a B)
 | _=>False
section
variable{P:Program}{w0 w w1:World}{M S0 S:ah}{N:fC}{φ:Nat->ah}{F:Nat->AV}{a:Act}{TE:Nat->Option TI}
theorem eX.tag{Y:ah}{c:C}{v:Value}(h:eX w S Y c v):eX w S Y (QU c v) v:=by
 cases h with
 | nil _ o a B=>cases o with
  | own=>exact .nil _ _ _ rfl
  | _=>exact .nil _ _ _ B
 | own _ o g k n l e u f B D E i p t K L M y=>cases o with
  | own=>exact .own _ _ g k n l e u f rfl D E i p t K L M y
  | X=>exact B.elim
  | tag z=>exact .own _ _ g k n l e u f B D E i p t K L M y
 | v _ x F=>exact .v _ _ F
 | x _ u F=>exact .x _ _ F
 | z _ a=>exact .z _ _
 | X _ g G k n l e u D E i N y=>exact .X _ g G k n l e u D E i N y
 | m _ b d O j t H P J q=>exact .m _ b d O j t H P J q
 | it _ r b since Q d seen j cur left t R H q y J T A=>exact .it _ r b since Q d seen j cur left t R H q y J T A
theorem eX.untag{Y:ah}{z v:Value}{rows:List (List C)}(h:eX w S Y (.s (.tag z) rows) v):v=z/\eX w S Y (.s .own rows) v:=by
 cases h with
 | nil _ o a d=>exact⟨Eq.symm d,.nil _ _ _ trivial⟩
 | own _ o g k n e rows u f d i j b c l p q r t=>exact⟨Eq.symm d,.own _ _ g k n e rows u f trivial i j b c l p q r t⟩
theorem oX(u:Nat->Value):∀(j:Nat)(cs:List C),(zH u j cs).length=cs.length
 | _,[]=>rfl
 | j,c::cs=>by simp[zH,oX u (j+1) cs]
theorem EO(u:Nat->Value):∀(a:Nat)(cs:List C)(j:Nat),(zH u a cs)[j]? = (cs[j]?).map λc=>QU c (u (a+j))
 | _,[],j=>by simp[zH]
 | a,c::cs,0=>by simp[zH]
 | a,c::cs,j+1=>by simp only[zH,List.getElem?_cons_succ];rw[EO u (a+1) cs j,show a+1+j=a+(j+1) by omega]
theorem cV.tag{Y:ah}{cs:List C}{u:Nat->Value}(h:cV w S Y cs u):cV w S Y (zH u 0 cs) u:=by
 obtain⟨f,e,g,i⟩:=h;refine⟨f,λj c a=>?_,λj a=>g j (by rwa [oX]at a),λj k a b=>i j k (by rwa [oX]at a) (by rwa [oX]at b)⟩;rw[EO,U6]at a;cases d:cs[j]? with
 | none=>rw[d]at a;cases a
 | some l=>
  rw[d]at a;simp only[v5,X0]at a;subst a;exact(e j l d).tag
def celF(v:Value)(j:Nat):Value:=v.cells.toList.getD j undef
theorem bW.celF{Y:ah}{ag:Option Nat}{cs:List C}{v:Value}(h:bW w S Y ag cs v):cs.length=ag.getD 1/\v=mkv ag (celF v)/\cV w S Y cs (celF v):=by
 obtain⟨b,u,c,d⟩:=h;have g:=qb (ag:=ag) (u:=u) (λe=>by subst e;exact d.one (by simp at b;omega));have f:∀j,j<ag.getD 1->Ab.celF v j=u j:=λj a=>by
  unfold Ab.celF;rw[c,g];simp[List.getD,a]
 exact⟨b,c.trans (iK λj a=>(f j a).symm),d.congr λj a=>f j ω⟩
def Qm(u:Nat->Nat->Value)(i:Nat):MA->AV
 | .val a cs=>.H (lK a) cs
 | .mut a cs=>.H (lK a) (zH (u i) 0 cs)
 | .ptr cs=>.H .box cs
theorem Av{u:Nat->Nat->Value} : ∀{A:List MA}{vs:List Value}{V:Nat->ah}(i:Nat),NK w S V A vs->∀t,(lay (xd u i A) t=.dead)\/(∃m v,i<=t/\vs[t - i]? = some v/\A[t - i]? = some m/\lay (xd u i A) t=Qm u t m/\qk w S (V (t - i)) m v)
 | [],_,_,i,_,t=>.inl rfl
 | m::A,[],_,i,h,t=>h.elim
 | m::A,v::vs,V,i,h,t=>by
  have c:lay (xd u i (m::A)) t=bif Nat.beq t i then Qm u i m else lay (xd u (i+1) A) t:=by cases m<;>rfl
  rw[c];cases a:Nat.beq t i with
  | true=>
   have:=Z1 a;subst this;exact .inr ⟨m,v,z3 _,by simp,by simp,rfl,by rw[Nat.sub_self];exact h.1⟩
  | false=>
   have d:t≠i:=λe=>by subst e;rw[Nat.beq_refl]at a;cases a
   rcases Av (i+1) h.2 t with b|⟨f,g,b,j,k,l,n⟩
   ·exact .inl b
   refine .inr ⟨f,g,ω,?_,?_,l,?_⟩
   ·rw[show t - i=(t - (i+1))+1 by omega];simpa using j
   ·rw[show t - i=(t - (i+1))+1 by omega];simpa using k
   rw[show t - i=(t - (i+1))+1 by omega];exact n
theorem J7:∀{A:List MA}{vs:List Value}{V:Nat->ah},NK w S V A vs->A.length=vs.length
 | [],[],_,_=>rfl
 | _::_,_::_,_,h=>by simp[J7 h.2]
 | [],_::_,_,h=>h.elim
 | _::_,[],_,h=>h.elim
theorem Jb{p:Nat->Value} : ∀{A:List MA}{i:Nat}{q:Nat × Value},q∈H1 p i A->i<=q.1/\q.1<i+A.length/\q.2=p q.1
 | [],_,_,h=>by simp[H1]at h
 | m::A,i,q,h=>by
  have a:q∈H1 p (i+1) A->i<=q.1/\q.1<i+(m::A).length/\q.2=p q.1:=λh=>by
   obtain⟨c,d,b⟩:=Jb h;exact⟨ω,by simp;omega,b⟩
  cases m with
  | ptr e=>
   rcases List.mem_cons.1 h with rfl|h
   ·exact⟨z3 _,by simp,rfl⟩
   exact a h
  | val=>exact a h
  | «mut»=>exact a h
theorem HW{p:Nat->Value} : ∀{A:List MA}{i n:Nat}{cs:List C},A[n]? = some (.ptr cs)->(i+n,p (i+n))∈H1 p i A
 | [],_,n,_,h=>by simp at h
 | m::A,i,0,cs,h=>by simp at h;subst h;simp[H1]
 | m::A,i,n+1,cs,h=>by
  have a:=HW (p:=p) (i:=i+1) (show A[n]? = some (.ptr cs) by simpa using h);rw[show i+1+n=i+(n+1) by omega]at a;cases m with
  | ptr cs=>exact z5 _ a
  | val=>exact a
  | «mut»=>exact a
def Q3(φ:Nat->ah):Option (Option Nat)->ah
 | some (some t)=>φ t
 | _=>NO
theorem B0{u:Nat->Value} : ∀{a:Nat}{cs xs b:List C},Qj u a cs xs b->cs.length=b.length/\∀(j:Nat)(c o:C),cs[j]? = some c->b[j]? = some o->∃y,(eg c=true->xs[j]? = some y)/\RO (u (a+j)) c y o
 | _,[],xs,b,h=>by simp only[Qj]at h;subst h;exact⟨rfl,λj c o h=>by simp at h⟩
 | _,_::_,[],_,h=>by simp only[Qj]at h
 | _,_::_,_::_,[],h=>by simp only[Qj]at h
 | a,p::cs,f::xs,q::b,h=>by
  simp only[Qj]at h;obtain⟨g,i⟩:=B0 h.2;refine⟨by simp[g],λj c o d e=>?_⟩;cases j with
  | zero=>simp at d e;subst d e;exact⟨f,λ_=>rfl,h.1⟩
  | succ j=>
   obtain⟨y,k,l⟩:=i j c o (by simpa using d) (by simpa using e);exact⟨y,λn=>by simpa using k n,by rw[show a+(j+1)=a+1+j by omega];exact l⟩
theorem MH{S' Y F:ah}{u L:Nat->Value}{cs xs G:List C}{off:Nat}(g:bo S w w1)(n:∀b o,S b o->S' b o)(h:cV w S Y cs u)(h':cV w1 S' F xs L)(i:Qj u 0 cs (xs.drop off) G):cV w1 S' F G u:=by
 obtain⟨f,M,U,V⟩:=h;obtain⟨H,r,t,A⟩:=h';obtain⟨W,N⟩:=B0 i;refine⟨λj b o=>off+j<xs.length/\H (off+j) b o,λj c q=>?_,λj q b o i=>t _ i.1 b o i.2,λj X q O P b o i p=>A _ _ i.1 p.1 ω b o i.2 p.2⟩;have Q:=(I2.1 q).1;have k:cs[j]? = some cs[j]:=C2 ω;obtain⟨y,l,a⟩:=N j _ c k q;rw[U6]at a;have d:=M j _ k;generalize cs[j]=B at k a d l;have keep:eg B=false->c=B->eX w1 S' (λb o=>off+j<xs.length/\H (off+j) b o) c (u j):=λR e=>by
  subst e;exact((d.bare (F':=NO) R).keep g (λ_ _ h=>h.elim)).mono n (λ_ _ h=>h.elim)
 cases B with
 | v Z=>exact keep rfl a
 | x=>exact keep rfl a
 | z=>exact keep rfl a
 | m es=>exact a.elim
 | it=>exact a.elim
 | s o J=>
  cases o with
  | X=>exact keep rfl a
  | tag z=>exact a.elim
  | own=>
   have l:=l rfl;rw[List.getElem?_drop]at l;have D:=(I2.1 l).1;simp only[RO]at a;split at a
   case h_2=>exact a.elim
   rename_i v' E;obtain⟨rfl,rfl⟩:=a;obtain⟨T,K⟩:=(r _ _ l).untag;rw[T]at K;exact K.mono (λ_ _ h=>h) (λb o h=>⟨D,h⟩)
theorem bj.backs{E:World}{S':ah}{u:Nat->Nat->Value}(h:bj w0 M S0 N S' φ F a E)(e:bo S w E)(f:∀b o,S b o->S' b o):∀{A:List MA}{g:List (Nat × Nat)}{B:List MA}{vs:List Value}{V:Nat->ah}{i:Nat},NK w S V A vs->
  (∀j v,vs[j]? = some v->u (i+j)=celF v)->(∀j v cs,vs[j]? = some v->A[j]? = some (.ptr cs)->tvs a (i+j)=v)->iG u F i A g B->Ee E S' (λn=>Q3 φ (Ey i A g)[n]?) B vs
 | [],g,B,vs,V,i,l,q,r,c=>by
  cases vs with
  | cons _ _=>exact l.elim
  | nil=>cases B with
   | nil=>trivial
   | cons _ _=>simp only[iG]at c
 | m::A,[],B,vs,V,i,l,q,r,c=>by cases m<;>simp only[iG]at c
 | m::A,p::g,[],vs,V,i,l,q,r,c=>by cases m<;>simp only[iG]at c
 | m::A,p::g,G::B,[],V,i,l,q,r,c=>l.elim
 | m::A,p::g,G::B,v::vs,V,i,l,q,r,c=>by
  have next:iG u F (i+1) A g B->Ee E S' (λn=>Q3 φ (Ey (i+1) A g)[n]?) B vs:=λc=>
   bj.backs h e f l.2 (λj v H=>by rw[show i+1+j=i+(j+1) by omega];exact q (j+1) v (by simpa using H))
    (λj v cs H U=>by rw[show i+1+j=i+(j+1) by omega];exact r (j+1) v cs (by simpa using H) (by simpa using U)) c
  cases m with
  | val W cs=>
   cases G with
   | val C X=>simp only[iG]at c;exact⟨trivial,next c⟩
   | ptr=>simp only[iG]at c
   | «mut»=>simp only[iG]at c
  | «mut» W cs=>
   cases G with
   | val=>simp only[iG]at c
   | ptr=>simp only[iG]at c
   | «mut» C out=>
    simp only[iG]at c;obtain⟨⟨rfl,d⟩,J⟩:=c;refine⟨?_,next J⟩;have D:=bW.celF (show bW w S (V 0) C cs v from l.1);have K:u i=celF v:=q 0 v (by simp);have t:=h.slot p.1;cases y:F p.1 with
    | H k xs=>
     rw[y]at d t;simp only at d;rw[K]at d;obtain⟨P,Y,Q,L,R,T,O⟩:=t;refine⟨by rw[<-(B0 d).1];exact D.1,celF v,D.2.1,?_⟩;exact(MH e f D.2.2 O d).mono (λ_ _ h=>h) (λb o c=>by simpa[Ey,Q3] using L b o c)
    | _=>rw[y]at d;exact d.elim
  | ptr cs=>
   cases G with
   | val=>simp only[iG]at c
   | «mut»=>simp only[iG]at c
   | ptr out=>
    simp only[iG]at c;refine⟨?_,next c.2⟩;have D:tvs a i=v:=r 0 v cs (by simp) (by simp);have t:=h.slot i;cases y:F i with
    | H k xs=>
     cases k with
     | box=>
      rw[y]at c t;have:=c.1;simp only at this;subst this;rw[D]at t;obtain⟨P,Y,Q,L,R,T,O⟩:=t;exact⟨P,Y,λb o c=>by simpa[Ey,Q3] using Q b o c,λb o c=>by simpa[Ey,Q3] using L b o c,R,T,O⟩
     | _=>rw[y]at c;exact c.1.elim
    | _=>rw[y]at c;exact c.1.elim
theorem uF:∀{l:List (Option Nat)},G9 l=true->∀(i a t c:Nat),i≠a->l[i]? = some (some t)->l[a]? = some (some c)->t≠c
 | [],_,i,a,t,c,_,h,_=>by simp at h
 | none::l,b,i,a,t,c,f,h,d=>by
  cases i with
  | zero=>simp at h
  | succ i=>cases a with
   | zero=>simp at d
   | succ a=>exact uF (l:=l) b i a t c ω (by simpa using h) (by simpa using d)
 | some j::l,b,i,a,t,c,f,h,d=>by
  simp only[G9,I0]at b;have g:∀(n s:Nat),l[n]? = some (some s)->j≠s:=λn s k e=>by
   have:=Z3.1 b.1 _ (W1 k);simp only[Bool.not_eq_true']at this;rw[e,Nat.beq_refl]at this;cases this
  cases i with
  | zero=>
   simp at h;subst h;cases a with
   | zero=>exact absurd rfl f
   | succ a=>exact g a c (by simpa using d)
  | succ i=>cases a with
   | zero=>simp at d;subst d;exact λe=>g i t (by simpa using h) e.symm
   | succ a=>exact uF b.2 i a t c ω (by simpa using h) (by simpa using d)
theorem x8:∀{l:List (Option Nat)}{i t:Nat},l[i]? = some (some t)->t∈sles l
 | [],i,t,h=>by simp at h
 | none::l,i,t,h=>by
  cases i with
  | zero=>simp at h
  | succ i=>exact x8 (l:=l) (i:=i) (by simpa using h)
 | some a::l,i,t,h=>by
  cases i with
  | zero=>simp at h;subst h;simp[sles]
  | succ i=>exact z5 _ (x8 (l:=l) (i:=i) (by simpa using h))
theorem xG{φ:Nat->ah}{x:Option (Option Nat)}{b o:Nat}(h:Q3 φ x b o):∃t,x=some (some t)/\φ t b o:=by
 match x,h with
 | some (some t),h=>exact⟨t,rfl,h⟩
 | some none,h=>exact h.elim
 | none,h=>exact h.elim
theorem JJ{f : Nat}{E : Func}{c : Code}{sh : Bool}{A B : List MA}{k : Kd}{rcs : List C}{mo : List (Nat × List Nat)}{n : Nat}(Q : List (Nat × Nat))(hTE : ∀t i, TE t = some i -> bP P t i)(hf : P.funcs[f]? = some E)(hn : (E.name == "runtime.NumGoroutine") = false)(a:E.body=some c){ck:Nat->Array Oper->Bool}{D:fC->Nat->Array Oper->((Nat->AV)->Prop)->(Nat->AV)->Prop}(hD:∀N,xe P N ck (D N))(hc:gu ck c=true)(hN:A.length+(E.ntmps - A.length)=n)(hok:G9 (Ey 0 A Q)=true)(hsh:sh=true\/hC rcs)(hp:∀(u:Nat->Nat->Value)(p:Nat->Value),aw P TE ⟨n,H1 p 0 A,mo⟩ (D ⟨n,H1 p 0 A,mo⟩) c (QE TE E.results.toList k rcs u A B Q) (lay (xd u 0 A))):aW P f sh A B k rcs:=by
 refine⟨⟨E,hf,hn,by rw[a];rfl⟩,λw S V r hS hV hVd hA=>?_⟩;have hlen:=J7 hA;refine calls_of_wp hf a ?_
 let u:Nat->Nat->Value:=λi=>celF (r.getD i undef)
 let p:Nat->Value:=λi=>r.getD i undef
 have htv:∀t v,r[t]? = some v->tvs {tmps:=r.toArray++Array.replicate (E.ntmps - r.toArray.size) undef,defers:=[]} t=v:=λt v l=>by
  have H:=(I2.1 l).1;simp only[tvs,I6];rw[Array.getElem?_append_left (by simpa using H)];simp only[List.getElem?_toArray];rw[l];rfl
 have hst:St w (λb o=>∃i,V i b o) S ⟨n,H1 p 0 A,mo⟩ (lay (xd u 0 A)) {tmps:=r.toArray++Array.replicate (E.ntmps - r.toArray.size) undef,defers:=[]} w:=by
  refine⟨S,V,λt=>?_,hVd,λt b o h=>(hV t b o h).2,λt b o h=>⟨(hV t b o h).1,.inr ⟨t,h⟩⟩,λ_ _ h=>h,λb o h=>⟨hS b o h,.inl h⟩,CZ _ _,by simp;omega,rfl,λq hq=>?_⟩
  ·rcases Av (u:=u) 0 hA t with J|⟨m,v,-,l,h2',G,U⟩
   ·rw[J];trivial
   rw[G];rw[Nat.sub_zero]at l U;rw[htv t v l];have hu:u t=celF v:=by show celF (r.getD t undef)=_;rw[List.getD,l];rfl
   cases m with
   | val O K=>exact(bW.mono (show bW w S NO O K v from U) (λ_ _ h=>h) (λ_ _ h=>h.elim)).slot
   | «mut» O K=>
    obtain⟨e1,e2,e3⟩:=bW.celF (show bW w S (V t) O K v from U);refine bW.slot ⟨by rw[oX];exact e1,celF v,e2,?_⟩;rw[hu];exact e3.tag
   | ptr K=>exact U
  obtain⟨-,J,l⟩:=Jb hq;rw[l];have H:q.1<r.length:=ω
  refine htv _ _ ?_;show r[q.1]? = some (r.getD q.1 undef);rw[List.getD,C2 H];rfl
 refine jl hTE (hD _) c hc _ _ _ _ w (hp u p) hst λe F' W y he hs'=>?_
 obtain⟨S',φ',h⟩:=hs';have fin:resA TE F' E.results.toList (sles (Ey 0 A Q)) (λsh K=>aV (ki sh) k K rcs (iG u F' 0 A Q B))->W.defers=[]/\∃v,(results E W.tmps).run P y=.ok v y/\(∃v',Ending.returned v=.returned v'/\bV (λb o=>∃i,V i b o) w y/\∃(X:ah)(Z:Nat->ah)(S1:ah),
     (∀b o,X b o->(∃i,V i b o)\/(b<y.heap.size/\w.heap.size<=b))/\(∀i b o,Z i b o->(∃i,V i b o)\/(b<y.heap.size/\w.heap.size<=b))/\
     (∀b o,S1 b o->(sh=true/\S b o)\/(∃i,V i b o)\/(b<y.heap.size/\w.heap.size<=b))/\
     (∀i i',i≠i'->∀b o,Z i b o->¬Z i' b o)/\(∀i b o,X b o->¬Z i b o)/\(∀b o,X b o->¬S1 b o)/\(∀i b o,Z i b o->¬S1 b o)/\
     gt y NO k rcs.length v'/\cV y S1 X rcs (ch y k v')/\Ee y (λb o=>S b o\/S1 b o) Z B r):=by
  intro hr;obtain⟨shs,K,d,u',hfin,hrun,M,hln,hL,hcells,L,hrow⟩:=h.resA hTE hr;obtain⟨rfl,rfl,R⟩:=hfin.out;refine⟨h.defers,?_⟩;have T:(results E W.tmps).run P y=.ok (if h:d.toArray.size=1 then d.toArray[0] else .tuple d.toArray) y:=by
   have e:results E W.tmps=(do let r <-E.results.mapM (E4 W.tmps);pure (if h:r.size=1 then r[0] else .tuple r)):=by
    unfold results
    congr 1
   rw[e,<-Array.toArray_toList (xs:=E.results),List.mapM_toArray];simp only[Sem.run_bind,Sem.run_map,hrun,Result.andThen_ok,Sem.run_pure]
  have hex:∀t b o,φ' t b o->(∃i,V i b o)\/(b<y.heap.size/\w.heap.size<=b):=λt b o a=>(h.ex t b o a).2.elim (λh'=>.inr ⟨(h.ex t b o a).1,h'⟩) .inl
  have hsameS:bo S w y:=λb o a=>by
   have H:=hS b o a;exact⟨h.old.cel b o H (λ⟨i,hi⟩=>(hV i b o hi).2 a),h.old.fro b o H (λ⟨i,hi⟩=>(hV i b o hi).2 a)⟩
  have hm:=h.backs (u:=u) hsameS h.sub hA (λj v hj=>by show celF (r.getD (0+j) undef)=_;rw[U6,List.getD,hj];rfl) (λj v K hj hc=>by
    have:=h.par _ (HW (p:=p) (i:=0) hc);rw[this];show r.getD (0+j) undef=v;rw[U6,List.getD,hj];rfl) R
  refine⟨_,T,_,rfl,h.old,λb o=>∃t,t∉sles (Ey 0 A Q)/\φ' t b o,λi=>Q3 φ' (Ey 0 A Q)[i]?,λb o=>(sh=true/\S' b o)\/(S' b o/\((∃i,V i b o)\/w.heap.size<=b)),λb o ⟨t,_,a⟩=>hex t b o a,λi b o a=>?_,λb o a=>?_,λi i' hne b o a g=>?_,λi b o ⟨t,ht,a⟩ g=>?_,λb o ⟨t,_,a⟩ g=>h.disS t b o a (g.elim (·.2) (·.1)),λi b o a g=>?_,?_⟩
  ·obtain⟨t,-,a⟩:=xG a
   exact hex t b o a
  ·rcases a with⟨J,l⟩|⟨J,l⟩
   ·rcases(h.sup b o l).2 with G|G|G
    ·exact .inl ⟨J,G⟩
    ·exact .inr (.inr ⟨(h.sup b o l).1,G⟩)
    exact .inr (.inl G)
   rcases l with l|l
   ·exact .inr (.inl l)
   exact .inr (.inr ⟨(h.sup b o J).1,l⟩)
  ·obtain⟨t,e1,a⟩:=xG a
   obtain⟨t',e2,g⟩:=xG g;exact h.dis t t' (uF hok i i' t t' hne e1 e2) b o a g
  ·obtain⟨t',e2,g⟩:=xG g
   exact h.dis t t' (λe=>ht (by rw[e];exact x8 e2)) b o a g
  ·obtain⟨t,-,a⟩:=xG a
   exact h.disS t b o a (g.elim (·.2) (·.1))
  have hk:gt y NO (ki shs) K.length (if h:d.toArray.size=1 then d.toArray[0] else .tuple d.toArray)/\cV y S' (λb o=>∃t,t∉sles (Ey 0 A Q)/\φ' t b o) K (ch y (ki shs) (if h:d.toArray.size=1 then d.toArray[0] else .tuple d.toArray)):=by
   match shs,M,L,hL with
   | [],M,_,hL=>
    cases d with
    | cons _ _=>exact M.elim
    | nil=>
     have:K=[]:=Y6 (by simpa[qo] using hL.symm);subst this;exact⟨⟨_,rfl,trivial,rfl⟩,cV.nil _ _ _ _⟩
   | [O],_,L,_=>
    obtain⟨v,rfl,hv⟩:=L O rfl;have:=hv.slot (F:=F') (tv:=tvs W);obtain⟨X1,Y,J,l,G,U,h5⟩:=this;refine⟨?_,h5.mono (λ_ _ h=>h) l⟩;cases O<;>exact U
   | O::ag2::sh,M,_,hL=>
    have hsz:¬d.toArray.size=1:=by
     match d,M with
     | [],M=>simp
     | [v],M=>cases O<;>cases ag2<;>exact M.2.elim
     | _::_::_,_=>simp
    rw[dif_neg hsz];refine⟨⟨_,rfl,M,hL⟩,hrow.congr λj hj=>?_⟩;simp only[ch,ki,mB,hcells];simp[List.getD,hj]
  refine⟨hk.1,?_,hm.mono λb o a=>?_⟩
  ·rcases hsh with J|J
   ·exact hk.2.mono (λb o a=>.inl ⟨J,a⟩) (λ_ _ h=>h)
   exact(hk.2.fresh J).mono (λ_ _ h=>h.elim) (λ_ _ h=>h)
  rcases(h.sup b o a).2 with G|G|G
  ·exact .inl G
  ·exact .inr (.inr ⟨a,.inr G⟩)
  exact .inr (.inr ⟨a,.inl G⟩)
 cases e with
 | normal=>exact fin he
 | ret=>exact fin he
 | _=>exact he.elim
end
abbrev I(z:Int):C:=.v (.int .i64 z)
abbrev B(b:Bool):C:=.v (.bool b)
def rI(_:dQ)(z:Int):List C:=[I z]
def rB(_:dQ)(b:Bool):List C:=[B b]
theorem nY(z:Int):hC (rI .own z):=⟨trivial,trivial⟩
theorem FB(b:Bool):hC (rB .own b):=⟨trivial,trivial⟩
def mS(z:Int):Prop:=-9223372036854775808<=z/\z<=9223372036854775807
def Td(_:Bool):Prop:=True
theorem qX : Tryz.prog.follows .mixedOrders=true:=by kernel_rfl
theorem Rz{n f : Nat}{mo : List (Nat × List Nat)}{a : Func}{c : Code}{sh : Bool}{A : List RA}{k : Kd}{rcs : List C}(d : Tryz.prog.funcs[f]? = some a)(e : (a.name == "runtime.NumGoroutine") = false)(g : a.body = some c){tb : List (Nat × Nat × List Nat)}(h : gu (nQ tb) c = true)(i:A.length+(a.ntmps - A.length)=n)(b:sh=true\/hC rcs)(j:aw Tryz.prog TE ⟨n,[],mo⟩ (DF Tryz.prog TE ⟨n,[],mo⟩ tb) c (P0 TE a.results.toList k rcs) (lay (vL 0 A))):ar Tryz.prog f sh A k rcs:=
 KC Aj d e g (rc Aj qX ⟨n,[],mo⟩ tb) h i rfl b j
theorem Ri{n f : Nat}{mo : List (Nat × List Nat)}{a : Func}{c : Code}{sh : Bool}{A B : List MA}{k : Kd}{rcs : List C}(b : List (Nat × Nat))(g : Tryz.prog.funcs[f]? = some a)(h : (a.name == "runtime.NumGoroutine") = false)(i : a.body = some c){tb : List (Nat × Nat × List Nat)}(j : gu (nQ tb) c = true)(l:A.length+(a.ntmps - A.length)=n)(d:G9 (Ey 0 A b)=true)(e:sh=true\/hC rcs)(o:∀(u:Nat->Nat->Value)(p:Nat->Value),aw Tryz.prog TE ⟨n,H1 p 0 A,mo⟩ (DF Tryz.prog TE ⟨n,H1 p 0 A,mo⟩ tb) c (QE TE a.results.toList k rcs u A B b) (lay (xd u 0 A))):aW Tryz.prog f sh A B k rcs:=
 JJ b Aj g h i (λN=>rc Aj qX N tb) j l d e o
theorem R6{n f t : Nat}{mo : List (Nat × List Nat)}{a : Func}{c : Code}{A : List RA}{rcs : List C}(b : Tryz.prog.funcs[f]? = some a)(d : (a.name == "runtime.NumGoroutine") = false)(e : a.body = some c){tb : List (Nat × Nat × List Nat)}(g : gu (nQ tb) c = true)(h:A.length+(a.ntmps - A.length)=n)(i:a.results = #[.tmp t])(j:aw Tryz.prog TE ⟨n,[],mo⟩ (DF Tryz.prog TE ⟨n,[],mo⟩ tb) c (R5 t rcs) (lay (vL 0 A))):qN Tryz.prog f true A .box rcs:=
 Kx Aj b d e (rc Aj qX ⟨n,[],mo⟩ tb) g h rfl i j
theorem eN{x:Int}(h1 : -9223372036854775808<=x)(a:x<=9223372036854775807):IntKind.i64.wrap x=x:=IntWalk.i64_in x (by constructor<;>assumption)
def MR:RA->RA->Prop
 | .val ag cs,.val ag' cs'=>ag=ag'/\cs=cs'
 | .ptr cs,.ptr cs'=>cs=cs'
 | A,a=>A=a
theorem MR.eq{A a:RA}(h:MR A a):A=a:=by
 unfold MR at h;split at h
 ·obtain⟨rfl,rfl⟩:=h;rfl
 ·rw[h]
 exact h
def Ea:List RA->List RA->Prop
 | [],[]=>True
 | A::As,B::Bs=>MR A B/\Ea As Bs
 | _,_=>False
theorem Ea.eq:∀{A a:List RA},Ea A a->A=a
 | [],[],_=>rfl
 | A::As,B::Bs,h=>by rw[MR.eq h.1,Ea.eq h.2]
 | [],_::_,h=>h.elim
 | _::_,[],h=>h.elim
theorem Cl.eq{P:Program}{f:Nat}{b:Bool}{A a:List RA}{K:AV->Prop}{k:Kd}{rcs:List C}(h:ar P f false a k rcs)(c:Ea A a)(d:K (.H k rcs)):Cl P f b A K:=by rw[c.eq];exact C7 h d
theorem CG:type_of% @Cl.eq:=@Cl.eq
theorem yI{n b:Nat}(h:n<=1048576)(a:b<=1000):n*b<=140737488355328:=W4 (Nat.mul_le_mul h a) (by decide)
theorem Bf.NB{a b:Bool}{X Y:Prop}(h1:a≠b->X)(c:a=b->Y):Bf (a != b) X Y:=by
 refine Bf.P (λh=>h1 ?_) (λh=>c ?_)
 ·simpa using h
 simpa using h
theorem Rw.one{a:List C}{off i k j:Nat}{K:List C->Nat->Prop}{o:dQ}{rows:List (List C)}{r:List C}(h1:a[off]? = some (.s o rows))(b:rows[i]? = some r)(c:r.length=k)(d:K r j):Rw a off [(i,k,j)] K:=
 Rw.mk (r:=r) (j:=j) (by simp[ce,h1,b,c]) d
theorem CH:type_of% @Rw.one:=@Rw.one
section
variable{α:Type}{A B:List α}
end
theorem aa{α β:Type}{f:α->β}{l:List α}{k:Nat}{x:α}(h:l[k]? = some x):(l.map f)[k]? = some (f x):=by simp[h]
def aD(o:dQ)(x:List Int):List C:=[.s o (x.map (rI o))]
theorem dX(x:List Int):eB (aD .own x)=aD .X x:=by simp[eB,aD,rI,eB]
theorem bH(x:List Int):hC (aD .own x):=⟨⟨.inl λh=>(by cases h),bg _ _ λy _=>nY y⟩,trivial⟩
def ib(x:List Int):Prop:=x.length<=9223372036854775807/\∀y∈x,mS y
def tl(x:List Int):Prop:=x.length<=1048576
def j8(o:dQ)(x:List (List Int)):List C:=[.s o (x.map (aD o))]
theorem Re(x:List (List Int)):eB (j8 .own x)=j8 .X x:=by simp[eB,j8,dX,<-co,U5]
def B9(x:List (List Int)):Prop:=x.length<=9223372036854775807/\∀y∈x,ib y
def xb(x:List (List Int)):Prop:=x.length<=1048576/\∀y∈x,tl y
def BV(o:dQ)(x:List Bool):List C:=[.s o (x.map (rB o))]
def PF(x:List Bool):Prop:=x.length<=9223372036854775807/\∀y∈x,Td y
def N4(x:List Bool):Prop:=x.length<=1048576
structure bc where
 S:List (List Int)
 a5:List Bool
deriving DecidableEq,Inhabited
def bc.enc(o:dQ)(x:bc):List C:=[.s o (x.S.map (aD o)),.s o (x.a5.map (rB o))]
theorem bc.enc_fz(x:bc):eB (bc.enc .own x)=bc.enc .X x:=by simp[eB,bc.enc,rB,dX,<-co,U5]
theorem bc.enc_fr(x:bc):hC (bc.enc .own x):=⟨⟨.inl λh=>(by cases h),bg _ _ λy _=>bH y⟩,⟨.inl λh=>(by cases h),bg _ _ λy _=>FB y⟩,trivial⟩
def bc.wf(x:bc):Prop:=B9 x.S/\PF x.a5
def bc.sml(x:bc):Prop:=xb x.S/\N4 x.a5
structure bi where
 j:Int
 e:Int
deriving DecidableEq,Inhabited
def bi.enc(o:dQ)(x:bi):List C:=[I x.j,I x.e]
theorem bi.enc_fz(x:bi):eB (bi.enc .own x)=bi.enc .X x:=by simp[eB,bi.enc]
theorem bi.enc_fr(x:bi):hC (bi.enc .own x):=⟨trivial,trivial,trivial⟩
def bi.wf(x:bi):Prop:=mS x.j/\mS x.e
def bi.sml(_:bi):Prop:=True
def Eh(o:dQ)(x:List bi):List C:=[.s o (x.map (bi.enc o))]
def Kn(x:List bi):Prop:=x.length<=9223372036854775807/\∀y∈x,bi.wf y
def GR(x:List bi):Prop:=x.length<=1048576/\∀y∈x,bi.sml y
structure aH where
 J:List bi
deriving DecidableEq,Inhabited
def aH.enc(o:dQ)(x:aH):List C:=[.s o (x.J.map (bi.enc o))]
theorem aH.enc_fz(x:aH):eB (aH.enc .own x)=aH.enc .X x:=by simp[eB,aH.enc,bi.enc_fz,<-co,U5]
theorem CY:type_of% @aH.enc_fz:=@aH.enc_fz
theorem aH.enc_fr(x:aH):hC (aH.enc .own x):=⟨⟨.inl λh=>(by cases h),bg _ _ λy _=>bi.enc_fr y⟩,trivial⟩
def aH.wf(x:aH):Prop:=Kn x.J
def aH.sml(x:aH):Prop:=GR x.J
structure aR where
 W:bc
 Q:aH
deriving DecidableEq,Inhabited
def aR.enc(o:dQ)(x:aR):List C:=[.s o (x.W.S.map (aD o)),.s o (x.W.a5.map (rB o)),.s o (x.Q.J.map (bi.enc o))]
theorem aR.enc_fz(x:aR):eB (aR.enc .own x)=aR.enc .X x:=by simp[eB,aR.enc,bi.enc_fz,rB,dX,<-co,U5]
theorem aR.enc_fr(x:aR):hC (aR.enc .own x):=⟨⟨.inl λh=>(by cases h),bg _ _ λy _=>bH y⟩,⟨.inl λh=>(by cases h),bg _ _ λy _=>FB y⟩,⟨.inl λh=>(by cases h),bg _ _ λy _=>bi.enc_fr y⟩,trivial⟩
def aR.wf(x:aR):Prop:=bc.wf x.W/\aH.wf x.Q
def aR.sml(x:aR):Prop:=bc.sml x.W/\aH.sml x.Q
structure af where
 F:aR
 Calls:Int
 a0:List Int
deriving DecidableEq,Inhabited
def af.enc(o:dQ)(x:af):List C:=[.s o (x.F.W.S.map (aD o)),.s o (x.F.W.a5.map (rB o)),.s o (x.F.Q.J.map (bi.enc o)),I x.Calls,.s o (x.a0.map (rI o))]
theorem af.enc_fz(x:af):eB (af.enc .own x)=af.enc .X x:=by simp[eB,af.enc,bi.enc_fz,rB,rI,dX,<-co,U5]
theorem CS:type_of% @af.enc_fz:=@af.enc_fz
theorem af.enc_fr(x:af):hC (af.enc .own x):=⟨⟨.inl λh=>(by cases h),bg _ _ λy _=>bH y⟩,⟨.inl λh=>(by cases h),bg _ _ λy _=>FB y⟩,⟨.inl λh=>(by cases h),bg _ _ λy _=>bi.enc_fr y⟩,trivial,⟨.inl λh=>(by cases h),bg _ _ λy _=>nY y⟩,trivial⟩
theorem Ca:type_of% @af.enc_fr:=@af.enc_fr
def af.wf(x:af):Prop:=aR.wf x.F/\mS x.Calls/\ib x.a0
def af.sml(x:af):Prop:=aR.sml x.F/\tl x.a0
structure aA where
 At:Int
 b1:Int
deriving DecidableEq,Inhabited
def aA.enc(o:dQ)(x:aA):List C:=[I x.At,I x.b1]
theorem aA.enc_fz(x:aA):eB (aA.enc .own x)=aA.enc .X x:=by simp[eB,aA.enc]
theorem aA.enc_fr(x:aA):hC (aA.enc .own x):=⟨trivial,trivial,trivial⟩
def aA.wf(x:aA):Prop:=mS x.At/\mS x.b1
def aA.sml(_:aA):Prop:=True
def bM(o:dQ)(x:List aA):List C:=[.s o (x.map (aA.enc o))]
theorem eM(x:List aA):eB (bM .own x)=bM .X x:=by simp[eB,bM,aA.enc_fz,<-co,U5]
theorem lW(x:List aA):hC (bM .own x):=⟨⟨.inl λh=>(by cases h),bg _ _ λy _=>aA.enc_fr y⟩,trivial⟩
def JG(x:List aA):Prop:=x.length<=9223372036854775807/\∀y∈x,aA.wf y
def iC(x:List aA):Prop:=x.length<=1048576/\∀y∈x,aA.sml y
structure ax where
 R:Int
 d:Int
 b2:Int
deriving DecidableEq,Inhabited
def ax.enc(o:dQ)(x:ax):List C:=[I x.R,I x.d,I x.b2]
theorem ax.enc_fz(x:ax):eB (ax.enc .own x)=ax.enc .X x:=by simp[eB,ax.enc]
theorem ax.enc_fr(x:ax):hC (ax.enc .own x):=⟨trivial,trivial,trivial,trivial⟩
def ax.wf(x:ax):Prop:=mS x.R/\mS x.d/\mS x.b2
def ax.sml(_:ax):Prop:=True
def bX(o:dQ)(x:List ax):List C:=[.s o (x.map (ax.enc o))]
theorem rx(x:List ax):eB (bX .own x)=bX .X x:=by simp[eB,bX,ax.enc_fz,<-co,U5]
theorem xK(x:List ax):hC (bX .own x):=⟨⟨.inl λh=>(by cases h),bg _ _ λy _=>ax.enc_fr y⟩,trivial⟩
def ML(x:List ax):Prop:=x.length<=9223372036854775807/\∀y∈x,ax.wf y
def dN(x:List ax):Prop:=x.length<=1048576/\∀y∈x,ax.sml y
structure a8 where
 R:Int
 a3:Int
 q:Int
deriving DecidableEq,Inhabited
def a8.enc(o:dQ)(x:a8):List C:=[I x.R,I x.a3,I x.q]
theorem a8.enc_fz(x:a8):eB (a8.enc .own x)=a8.enc .X x:=by simp[eB,a8.enc]
theorem a8.enc_fr(x:a8):hC (a8.enc .own x):=⟨trivial,trivial,trivial,trivial⟩
def a8.wf(x:a8):Prop:=mS x.R/\mS x.a3/\mS x.q
def a8.sml(_:a8):Prop:=True
def cy(o:dQ)(x:List a8):List C:=[.s o (x.map (a8.enc o))]
theorem EA(x:List a8):eB (cy .own x)=cy .X x:=by simp[eB,cy,a8.enc_fz,<-co,U5]
def K6(x:List a8):Prop:=x.length<=9223372036854775807/\∀y∈x,a8.wf y
def dM(x:List a8):Prop:=x.length<=1048576/\∀y∈x,a8.sml y
structure bu where
 Id:Int
 Addr:Int
 q:Int
 a4:Int
deriving DecidableEq,Inhabited
def bu.enc(o:dQ)(x:bu):List C:=[I x.Id,I x.Addr,I x.q,I x.a4]
theorem bu.enc_fz(x:bu):eB (bu.enc .own x)=bu.enc .X x:=by simp[eB,bu.enc]
theorem bu.enc_fr(x:bu):hC (bu.enc .own x):=⟨trivial,trivial,trivial,trivial,trivial⟩
def bu.wf(x:bu):Prop:=mS x.Id/\mS x.Addr/\mS x.q/\mS x.a4
def bu.sml(_:bu):Prop:=True
def p8(o:dQ)(x:List bu):List C:=[.s o (x.map (bu.enc o))]
theorem KE(x:List bu):eB (p8 .own x)=p8 .X x:=by simp[eB,p8,bu.enc_fz,<-co,U5]
def Pv(x:List bu):Prop:=x.length<=9223372036854775807/\∀y∈x,bu.wf y
def Ma(x:List bu):Prop:=x.length<=1048576/\∀y∈x,bu.sml y
structure aE where
 b:List (List Int)
deriving DecidableEq,Inhabited
def aE.enc(o:dQ)(x:aE):List C:=[.s o (x.b.map (aD o))]
theorem aE.enc_fz(x:aE):eB (aE.enc .own x)=aE.enc .X x:=by simp[eB,aE.enc,dX,<-co,U5]
theorem aE.enc_fr(x:aE):hC (aE.enc .own x):=⟨⟨.inl λh=>(by cases h),bg _ _ λy _=>bH y⟩,trivial⟩
def aE.wf(x:aE):Prop:=B9 x.b
def aE.sml(x:aE):Prop:=xb x.b
def oF(o:dQ)(x:List aE):List C:=[.s o (x.map (aE.enc o))]
def KP(x:List aE):Prop:=x.length<=9223372036854775807/\∀y∈x,aE.wf y
def G0(x:List aE):Prop:=x.length<=1048576/\∀y∈x,aE.sml y
structure dw where
 To:Int
 Addr:Int
deriving DecidableEq,Inhabited
def dw.enc(o:dQ)(x:dw):List C:=[I x.To,I x.Addr]
theorem dw.enc_fz(x:dw):eB (dw.enc .own x)=dw.enc .X x:=by simp[eB,dw.enc]
theorem dw.enc_fr(x:dw):hC (dw.enc .own x):=⟨trivial,trivial,trivial⟩
def dw.wf(x:dw):Prop:=mS x.To/\mS x.Addr
def dw.sml(_:dw):Prop:=True
def cK(o:dQ)(x:List dw):List C:=[.s o (x.map (dw.enc o))]
theorem rE(x:List dw):eB (cK .own x)=cK .X x:=by simp[eB,cK,dw.enc_fz,<-co,U5]
theorem rn(x:List dw):hC (cK .own x):=⟨⟨.inl λh=>(by cases h),bg _ _ λy _=>dw.enc_fr y⟩,trivial⟩
def Lt(x:List dw):Prop:=x.length<=9223372036854775807/\∀y∈x,dw.wf y
def Kw(x:List dw):Prop:=x.length<=1048576/\∀y∈x,dw.sml y
def wQ(o:dQ)(x:List (List dw)):List C:=[.s o (x.map (cK o))]
def K4(x:List (List dw)):Prop:=x.length<=9223372036854775807/\∀y∈x,Lt y
def Hk(x:List (List dw)):Prop:=x.length<=1048576/\∀y∈x,Kw y
structure aK where
 U:List (List dw)
 a1:List (List Int)
deriving DecidableEq,Inhabited
def aK.enc(o:dQ)(x:aK):List C:=[.s o (x.U.map (cK o)),.s o (x.a1.map (aD o))]
theorem aK.enc_fz(x:aK):eB (aK.enc .own x)=aK.enc .X x:=by simp[eB,aK.enc,rE,dX,<-co,U5]
theorem aK.enc_fr(x:aK):hC (aK.enc .own x):=⟨⟨.inl λh=>(by cases h),bg _ _ λy _=>rn y⟩,⟨.inl λh=>(by cases h),bg _ _ λy _=>bH y⟩,trivial⟩
def aK.wf(x:aK):Prop:=K4 x.U/\B9 x.a1
def aK.sml(x:aK):Prop:=Hk x.U/\xb x.a1
structure aQ where
 Addr:Int
 d:Int
 b7:Int
deriving DecidableEq,Inhabited
def aQ.enc(o:dQ)(x:aQ):List C:=[I x.Addr,I x.d,I x.b7]
theorem aQ.enc_fz(x:aQ):eB (aQ.enc .own x)=aQ.enc .X x:=by simp[eB,aQ.enc]
theorem aQ.enc_fr(x:aQ):hC (aQ.enc .own x):=⟨trivial,trivial,trivial,trivial⟩
def aQ.wf(x:aQ):Prop:=mS x.Addr/\mS x.d/\mS x.b7
def aQ.sml(_:aQ):Prop:=True
def cW(o:dQ)(x:List aQ):List C:=[.s o (x.map (aQ.enc o))]
theorem Gc(x:List aQ):eB (cW .own x)=cW .X x:=by simp[eB,cW,aQ.enc_fz,<-co,U5]
theorem vc(x:List aQ):hC (cW .own x):=⟨⟨.inl λh=>(by cases h),bg _ _ λy _=>aQ.enc_fr y⟩,trivial⟩
def Kz(x:List aQ):Prop:=x.length<=9223372036854775807/\∀y∈x,aQ.wf y
def lB(x:List aQ):Prop:=x.length<=1048576/\∀y∈x,aQ.sml y
structure bL where
 c1:Int
 a6:List aQ
deriving DecidableEq,Inhabited
def bL.enc(o:dQ)(x:bL):List C:=[I x.c1,.s o (x.a6.map (aQ.enc o))]
theorem bL.enc_fz(x:bL):eB (bL.enc .own x)=bL.enc .X x:=by simp[eB,bL.enc,aQ.enc_fz,<-co,U5]
theorem bL.enc_fr(x:bL):hC (bL.enc .own x):=⟨trivial,⟨.inl λh=>(by cases h),bg _ _ λy _=>aQ.enc_fr y⟩,trivial⟩
def bL.wf(x:bL):Prop:=mS x.c1/\Kz x.a6
def bL.sml(x:bL):Prop:=lB x.a6
structure bY where
 a2:Int
 w:Int
 S:List Int
deriving DecidableEq,Inhabited
def bY.enc(o:dQ)(x:bY):List C:=[I x.a2,I x.w,.s o (x.S.map (rI o))]
theorem bY.enc_fz(x:bY):eB (bY.enc .own x)=bY.enc .X x:=by simp[eB,bY.enc,rI,<-co,U5]
theorem bY.enc_fr(x:bY):hC (bY.enc .own x):=⟨trivial,trivial,⟨.inl λh=>(by cases h),bg _ _ λy _=>nY y⟩,trivial⟩
def bY.wf(x:bY):Prop:=mS x.a2/\mS x.w/\ib x.S
def bY.sml(x:bY):Prop:=tl x.S
structure cg where
 V:bY
 b0:Int
 a:Int
deriving DecidableEq,Inhabited
def cg.enc(o:dQ)(x:cg):List C:=[I x.V.a2,I x.V.w,.s o (x.V.S.map (rI o)),I x.b0,I x.a]
theorem cg.enc_fz(x:cg):eB (cg.enc .own x)=cg.enc .X x:=by simp[eB,cg.enc,rI,<-co,U5]
theorem cg.enc_fr(x:cg):hC (cg.enc .own x):=⟨trivial,trivial,⟨.inl λh=>(by cases h),bg _ _ λy _=>nY y⟩,trivial,trivial,trivial⟩
def cg.wf(x:cg):Prop:=bY.wf x.V/\mS x.b0/\mS x.a
def cg.sml(x:cg):Prop:=bY.sml x.V
structure ab where
 G:af
 u:List aA
 K:List ax
 M:List a8
 O:List bu
 T:List aE
 y:aK
 a9:bL
 c0:Int
 b3:Int
 c3:Int
 a:Int
 o:Bool
 Y:cg
deriving DecidableEq,Inhabited
def ab.enc(o:dQ)(x:ab):List C:=[.s o (x.G.F.W.S.map (aD o)),.s o (x.G.F.W.a5.map (rB o)),.s o (x.G.F.Q.J.map (bi.enc o)),I x.G.Calls,.s o (x.G.a0.map (rI o)),.s o (x.u.map (aA.enc o)),.s o (x.K.map (ax.enc o)),.s o (x.M.map (a8.enc o)),.s o (x.O.map (bu.enc o)),.s o (x.T.map (aE.enc o)),.s o (x.y.U.map (cK o)),.s o (x.y.a1.map (aD o)),I x.a9.c1,.s o (x.a9.a6.map (aQ.enc o)),I x.c0,I x.b3,I x.c3,I x.a,B x.o,I x.Y.V.a2,I x.Y.V.w,.s o (x.Y.V.S.map (rI o)),I x.Y.b0,I x.Y.a]
theorem ab.enc_fz(x:ab):eB (ab.enc .own x)=ab.enc .X x:=by simp[eB,ab.enc,aE.enc_fz,bi.enc_fz,a8.enc_fz,bu.enc_fz,aA.enc_fz,ax.enc_fz,aQ.enc_fz,rB,rE,rI,dX,<-co,U5]
theorem ab.enc_fr(x:ab):hC (ab.enc .own x):=⟨⟨.inl λh=>(by cases h),bg _ _ λy _=>bH y⟩,⟨.inl λh=>(by cases h),bg _ _ λy _=>FB y⟩,⟨.inl λh=>(by cases h),bg _ _ λy _=>bi.enc_fr y⟩,trivial,⟨.inl λh=>(by cases h),bg _ _ λy _=>nY y⟩,⟨.inl λh=>(by cases h),bg _ _ λy _=>aA.enc_fr y⟩,⟨.inl λh=>(by cases h),bg _ _ λy _=>ax.enc_fr y⟩,⟨.inl λh=>(by cases h),bg _ _ λy _=>a8.enc_fr y⟩,⟨.inl λh=>(by cases h),bg _ _ λy _=>bu.enc_fr y⟩,⟨.inl λh=>(by cases h),bg _ _ λy _=>aE.enc_fr y⟩,⟨.inl λh=>(by cases h),bg _ _ λy _=>rn y⟩,⟨.inl λh=>(by cases h),bg _ _ λy _=>bH y⟩,trivial,⟨.inl λh=>(by cases h),bg _ _ λy _=>aQ.enc_fr y⟩,trivial,trivial,trivial,trivial,trivial,trivial,trivial,⟨.inl λh=>(by cases h),bg _ _ λy _=>nY y⟩,trivial,trivial,trivial⟩
def ab.wf(x:ab):Prop:=af.wf x.G/\JG x.u/\ML x.K/\K6 x.M/\Pv x.O/\KP x.T/\aK.wf x.y/\bL.wf x.a9/\mS x.c0/\mS x.b3/\mS x.c3/\mS x.a/\Td x.o/\cg.wf x.Y
def ab.sml(x:ab):Prop:=af.sml x.G/\iC x.u/\dN x.K/\dM x.M/\Ma x.O/\G0 x.T/\aK.sml x.y/\bL.sml x.a9/\cg.sml x.Y
structure jw where
 b6:Int
 c4:Int
 c8:Int
 c5:Int
deriving DecidableEq,Inhabited
def jw.enc(o:dQ)(x:jw):List C:=[I x.b6,I x.c4,I x.c8,I x.c5]
theorem jw.enc_fr(x:jw):hC (jw.enc .own x):=⟨trivial,trivial,trivial,trivial,trivial⟩
structure Tc where
 Id:Int
 q:Int
 Sum:Int
deriving DecidableEq,Inhabited
structure bD where
 Id:Int
 S:List Int
deriving DecidableEq,Inhabited
def bD.enc(o:dQ)(x:bD):List C:=[I x.Id,.s o (x.S.map (rI o))]
theorem bD.enc_fz(x:bD):eB (bD.enc .own x)=bD.enc .X x:=by simp[eB,bD.enc,rI,<-co,U5]
theorem bD.enc_fr(x:bD):hC (bD.enc .own x):=⟨trivial,⟨.inl λh=>(by cases h),bg _ _ λy _=>nY y⟩,trivial⟩
def bD.sml(x:bD):Prop:=tl x.S
def FO(x:List bD):Prop:=x.length<=1048576/\∀y∈x,bD.sml y
structure ay where
 a:Int
 O:List bD
deriving DecidableEq,Inhabited
def ay.enc(o:dQ)(x:ay):List C:=[I x.a,.s o (x.O.map (bD.enc o))]
theorem ay.enc_fz(x:ay):eB (ay.enc .own x)=ay.enc .X x:=by simp[eB,ay.enc,bD.enc_fz,<-co,U5]
theorem Cb:type_of% @ay.enc_fz:=@ay.enc_fz
theorem ay.enc_fr(x:ay):hC (ay.enc .own x):=⟨trivial,⟨.inl λh=>(by cases h),bg _ _ λy _=>bD.enc_fr y⟩,trivial⟩
def ay.sml(x:ay):Prop:=FO x.O
structure bk where
 Z:ab
 b5:ay
deriving DecidableEq,Inhabited
def bk.enc(o:dQ)(x:bk):List C:=[.s o (x.Z.G.F.W.S.map (aD o)),.s o (x.Z.G.F.W.a5.map (rB o)),.s o (x.Z.G.F.Q.J.map (bi.enc o)),I x.Z.G.Calls,.s o (x.Z.G.a0.map (rI o)),.s o (x.Z.u.map (aA.enc o)),.s o (x.Z.K.map (ax.enc o)),.s o (x.Z.M.map (a8.enc o)),.s o (x.Z.O.map (bu.enc o)),.s o (x.Z.T.map (aE.enc o)),.s o (x.Z.y.U.map (cK o)),.s o (x.Z.y.a1.map (aD o)),I x.Z.a9.c1,.s o (x.Z.a9.a6.map (aQ.enc o)),I x.Z.c0,I x.Z.b3,I x.Z.c3,I x.Z.a,B x.Z.o,I x.Z.Y.V.a2,I x.Z.Y.V.w,.s o (x.Z.Y.V.S.map (rI o)),I x.Z.Y.b0,I x.Z.Y.a,I x.b5.a,.s o (x.b5.O.map (bD.enc o))]
theorem bk.enc_fr(x:bk):hC (bk.enc .own x):=⟨⟨.inl λh=>(by cases h),bg _ _ λy _=>bH y⟩,⟨.inl λh=>(by cases h),bg _ _ λy _=>FB y⟩,⟨.inl λh=>(by cases h),bg _ _ λy _=>bi.enc_fr y⟩,trivial,⟨.inl λh=>(by cases h),bg _ _ λy _=>nY y⟩,⟨.inl λh=>(by cases h),bg _ _ λy _=>aA.enc_fr y⟩,⟨.inl λh=>(by cases h),bg _ _ λy _=>ax.enc_fr y⟩,⟨.inl λh=>(by cases h),bg _ _ λy _=>a8.enc_fr y⟩,⟨.inl λh=>(by cases h),bg _ _ λy _=>bu.enc_fr y⟩,⟨.inl λh=>(by cases h),bg _ _ λy _=>aE.enc_fr y⟩,⟨.inl λh=>(by cases h),bg _ _ λy _=>rn y⟩,⟨.inl λh=>(by cases h),bg _ _ λy _=>bH y⟩,trivial,⟨.inl λh=>(by cases h),bg _ _ λy _=>aQ.enc_fr y⟩,trivial,trivial,trivial,trivial,trivial,trivial,trivial,⟨.inl λh=>(by cases h),bg _ _ λy _=>nY y⟩,trivial,trivial,trivial,⟨.inl λh=>(by cases h),bg _ _ λy _=>bD.enc_fr y⟩,trivial⟩
structure R0 where
 a3:Int
 Mapped:Int
 W:Int
 Held:Int
 m9:Int
 Cached:Int
 c6:Int
 Posted:Int
deriving DecidableEq,Inhabited
theorem Lm{α β:Type}{f:α->β}{l:List α}{K:Nat->Prop}(h:K l.length):Ln (l.map f).length K:=Ln.mk (Z0 ..) h
theorem Wm{z:Int}{K:Int->Prop}(h : -9223372036854775808<=z/\z<=9223372036854775807)(a:K z):Wr .i64 z K:=CM (eN h.1 h.2) a
theorem dT{p:Prop}[Decidable p]{X Y:Prop}(h:p)(a:p->X):Bf (decide p) X Y:=.D a λe=>absurd h e
theorem dF{p:Prop}[Decidable p]{X Y:Prop}(h:¬p)(a:¬p->Y):Bf (decide p) X Y:=.D (λe=>absurd e h) a
theorem nT{a b:Int}{X Y:Prop}(h:a≠b)(c:a≠b->X):Bf (a != b) X Y:=.N c λe=>absurd e h
theorem nF{a b:Int}{X Y:Prop}(h:a=b)(c:a=b->Y):Bf (a != b) X Y:=.N (λe=>absurd h e) c
theorem eT{a b:Int}{X Y:Prop}(h:a=b)(c:a=b->X):Bf (a == b) X Y:=.E c λe=>absurd h e
theorem eF{a b:Int}{X Y:Prop}(h:a≠b)(c:a≠b->Y):Bf (a == b) X Y:=.E (λe=>absurd e h) c
theorem Bn{b:Bool}{X Y:Prop}(h:Bf b Y X):Bf (!b) X Y:=.not h
theorem Bt{X Y:Prop}(h:X):Bf true X Y:=.t rfl h
theorem Bu{X Y:Prop}(h:Y):Bf false X Y:=.f rfl h
theorem Fm{k b:Kd}{cs a:List C}(h1:k=b)(h:cs=a):iX k b cs a:=.mk h1 h
theorem dV{p:Prop}[Decidable p]{X Y:Prop}(h:p)(a:X):Bf (decide p) X Y:=.D (λ_=>a) λe=>absurd h e
theorem dW{p:Prop}[Decidable p]{X Y:Prop}(h:¬p)(a:Y):Bf (decide p) X Y:=.D (λe=>absurd e h) λ_=>a
theorem nV{a b:Int}{X Y:Prop}(h:a≠b)(c:X):Bf (a != b) X Y:=.N (λ_=>c) λe=>absurd e h
theorem nW{a b:Int}{X Y:Prop}(h:a=b)(c:Y):Bf (a != b) X Y:=.N (λe=>absurd h e) λ_=>c
theorem eV{a b:Int}{X Y:Prop}(h:a=b)(c:X):Bf (a == b) X Y:=.E (λ_=>c) λe=>absurd h e
theorem eW{a b:Int}{X Y:Prop}(h:a≠b)(c:Y):Bf (a == b) X Y:=.E (λe=>absurd e h) λ_=>c
structure QK(Y:Prop):Prop where
 out:Y
theorem gO{X Y:Prop}(y:Y)(h:QK Y->X:=by intro y;(conv=>whnf);(first|with_reducible (first|refine Lm ?_|refine Wm ω ?_|refine Bn ?_|refine Fm rfl ?_)|refine Bt ?_|refine Bu ?_|fail);exact y.out):X:=h ⟨y⟩
theorem gD{X Y:Prop}(y:Y)(h:QK Y->X:=by intro y;(conv=>whnf);(first|with_reducible (first|refine Lm ?_|refine Wm ω ?_|refine dV ω ?_|refine dW ω ?_|refine Bn ?_|refine Fm rfl ?_)|refine Bt ?_|refine Bu ?_|fail);exact y.out):X:=h ⟨y⟩
theorem gA{X Y:Prop}(y:Y)(h:QK Y->X:=by intro y;(conv=>whnf);(first|with_reducible (first|refine Lm ?_|refine Wm ω ?_|refine dV ω ?_|refine dW ω ?_|refine nV ω ?_|refine nW ω ?_|refine eV ω ?_|refine eW ω ?_|refine Bn ?_|refine Fm rfl ?_)|refine Bt ?_|refine Bu ?_|fail);exact y.out):X:=h ⟨y⟩
theorem R4{z1 z2:Int}(h:z1=z2):Pm (I z1) (I z2):=by subst h;rfl
theorem RV(c:C):Pm c c:=(mH [c]).1
theorem wA{X:Prop}(h:X:=by repeat'(first|exact trivial|rfl|refine CK ?_ ?_)):X:=h
theorem wB{X:Prop}(h:X:=by repeat'(first|exact trivial|rfl|refine CK ?_ ?_|(exact R4 (by first|omega|(simp only;omega)|(simp;omega))))):X:=h
theorem wC{X:Prop}(h:X:=by repeat'(first|exact trivial|rfl|exact RV _|refine CK ?_ ?_|(exact R4 (by first|omega|(simp only;omega)|(simp;omega))))):X:=h
theorem fO(n : Nat){f : Nat}{a : Func}{c : Code}{sh : Bool}{A : List RA}{k : Kd}{rcs : List C}(tb : List (Nat × Nat × List Nat))(d : Tryz.prog.funcs[f]? = some a)(e : a.body = some c)(g : aw Tryz.prog TE ⟨n, [], []⟩ (DF Tryz.prog TE ⟨n, [], []⟩ tb) c (P0 TE a.results.toList k rcs) (lay (vL 0 A)))(b : sh = true \/ hC rcs := by exact .inr ⟨trivial, trivial⟩)(h : (a.name == "runtime.NumGoroutine") = false := by kernel_rfl)(i : gu (nQ tb) c = true := by kernel_rfl)(j : A.length + (a.ntmps - A.length) = n := by rfl) : ar Tryz.prog f sh A k rcs := Rz d h e i j b g
theorem fP(n : Nat){f : Nat}{a : Func}{c : Code}{sh : Bool}{A : List RA}{k : Kd}{rcs : List C}(mo : List (Nat × List Nat))(tb : List (Nat × Nat × List Nat))(d : Tryz.prog.funcs[f]? = some a)(e : a.body = some c)(g : aw Tryz.prog TE ⟨n, [], mo⟩ (DF Tryz.prog TE ⟨n, [], mo⟩ tb) c (P0 TE a.results.toList k rcs) (lay (vL 0 A)))(b : sh = true \/ hC rcs := by exact .inr ⟨trivial, trivial⟩)(h : (a.name == "runtime.NumGoroutine") = false := by kernel_rfl)(i : gu (nQ tb) c = true := by kernel_rfl)(j : A.length + (a.ntmps - A.length) = n := by rfl) : ar Tryz.prog f sh A k rcs := Rz d h e i j b g
theorem fM(n : Nat){f : Nat}{a : Func}{c : Code}{sh : Bool}{A B : List MA}{k : Kd}{rcs : List C}(mo : List (Nat × List Nat))(tb : List (Nat × Nat × List Nat))(b : List (Nat × Nat))(g : Tryz.prog.funcs[f]? = some a)(h : a.body = some c)(i : ∀(u : Nat -> Nat -> Value)(p : Nat -> Value), aw Tryz.prog TE ⟨n, H1 p 0 A, mo⟩ (DF Tryz.prog TE ⟨n, H1 p 0 A, mo⟩ tb) c (QE TE a.results.toList k rcs u A B b) (lay (xd u 0 A)))(d : sh = true \/ hC rcs := by exact .inr ⟨trivial, trivial⟩)(j : (a.name == "runtime.NumGoroutine") = false := by kernel_rfl)(l : gu (nQ tb) c = true := by kernel_rfl)(o : A.length + (a.ntmps - A.length) = n := by rfl)(e : G9 (Ey 0 A b) = true := by rfl) : aW Tryz.prog f sh A B k rcs := Ri b g j h l o e d i
section
variable{α:Type}{l:List α}{p:α->Bool}{i:Nat}{x:α}
theorem cS(h:l[i]? = some x)(a:(l.take i).all p=true)(b:p x=true):(l.take (i+1)).all p=true:=by
 rw[I5,h,List.all_append,a];simp[b]
theorem fg(h:l[i]? = some x)(a:p x=false):l.all p=false:=by
 rw[List.all_eq_false];exact⟨x,W1 h,by simp[a]⟩
theorem gQ(a:l.length<=i)(b:(l.take i).all p=true):l.all p=true:=by
 rwa [W6 a]at b
end
theorem wh{α β:Type}{a:List α}{b:List β}{i:Nat}{x:α}{y:β}(h1:a[i]? = some x)(c:b[i]? = some y):(a.zip b)[i]? = some (x,y):=by
 rw[List.getElem?_zip_eq_some];exact⟨h1,c⟩
def nth{α:Type}[Inhabited α](xs:List α)(i:Nat):α:=xs.getD i default
theorem ao{α:Type}[Inhabited α]{xs:List α}{i:Nat}(h:i<xs.length):xs[i]? = some (nth xs i):=by
 unfold nth;rw[U2,C2 h];rfl
theorem bm{α:Type}[Inhabited α]{xs:List α}{i:Nat}{y:α}(h:xs[i]? = some y):nth xs i=y:=by
 unfold nth;rw[U2,h];rfl
theorem am{α:Type}[Inhabited α]{xs:List α}{i:Nat}(h:i<xs.length):nth xs i∈xs:=W1 (ao h)
def cY(n:Nat)(p:Nat->Bool):Bool:=(List.range n).all p
theorem cx{n:Nat}{p:Nat->Bool} : cY n p=true↔∀j,j<n->p j=true:=by
 unfold cY;simp
theorem bS{n:Nat}{p:Nat->Bool}(h:cY n p=true)(a:p n=true):cY (n+1) p=true:=by
 rw[cx]at *;grind
theorem cA{n i:Nat}{p:Nat->Bool}(a:i<n)(b:p i=false):cY n p=false:=by
 by_cases h:cY n p=true
 ·rw[cx]at h;grind
 simpa using h
theorem dS{n i:Nat}{p:Nat->Bool}(h:cY n p=true)(a:i<n):p i=true:=cx.1 h i a
def iH(u:Bool)(v:Int):Bool:=decide (0<=v/\v<=999)&&(u || decide (v=0))
def gZ(r:List Int)(u:Bool):Bool:=decide (r.length=16)&&r.all (iH u)
def du(f:bc):Bool:=decide (1<=f.S.length/\f.S.length<=32)&&(decide (f.a5.length=f.S.length)&&(f.S.zip f.a5).all λq=>gZ q.1 q.2)
theorem iM{f:bc}{i:Nat}{r:List Int}{u:Bool}(h1:f.S[i]? = some r)(a:f.a5[i]? = some u)(b:gZ r u=false):du f=false:=by
 unfold du;rw[fg (p:=λq=>gZ q.1 q.2) (wh h1 a) b];simp
theorem sK{r:List Int}{u:Bool}{k:Nat}{v:Int}(h1:r[k]? = some v)(a:iH u v=false):gZ r u=false:=by
 unfold gZ;rw[fg h1 a];simp
theorem Dh{f:bc}(h:du f=true):1<=f.S.length/\f.S.length<=32/\f.a5.length=f.S.length:=by
 unfold du at h;simp only[I0,C0]at h;exact⟨h.1.1,h.1.2,h.2.1⟩
def ky(a:Int)(e:bi):Bool:=decide (0<=e.j/\e.j<=2/\(e.j=0->e.e=0)/\(e.j≠0->0<=e.e/\e.e<a))
def gw(t:aH)(a:Int):Bool:=cY t.J.length (λi=>ky a (nth t.J i))&&decide (1<=t.J.length/\t.J.length<=32)
def Lc(t:aH)(f:Int)(i:Nat):Bool:=decide ((nth t.J i).j≠0/\(nth t.J i).e=f)
def jU(t:aH)(f:Int)(n:Nat):List Int:=((List.range n).filter (Lc t f)).map λ(i:Nat)=>(i:Int)
def pagesOn(t:aH)(f:Int):List Int:=jU t f t.J.length
theorem AA{t:aH}{f:Int}{n:Nat}(h:Lc t f n=true):jU t f (n+1)=jU t f n++[(n:Int)]:=by
 unfold jU;rw[List.range_succ,List.filter_append,T5];simp[h]
theorem El{t:aH}{f:Int}{n:Nat}(h:Lc t f n=false):jU t f (n+1)=jU t f n:=by
 unfold jU;rw[List.range_succ,List.filter_append,T5];simp[h]
theorem uM(t:aH)(f:Int)(n:Nat):(jU t f n).length<=n:=by
 unfold jU;rw[Z0];exact W4 (List.length_filter_le ..) (by simp)
def ac(t:aH)(p:Int):bi:=if 0<=p/\p<t.J.length then nth t.J p.toNat else⟨0,0⟩
def oT(m:aR)(i:Nat):Bool:=nth m.W.a5 i == decide (0<(pagesOn m.Q (i:Int)).length)
def di(m:aR):Bool:=(du m.W&&gw m.Q m.W.a5.length)&&cY m.W.a5.length (oT m)
def a7(k:af):Bool:=(cY k.a0.length (λi=>decide (0<=nth k.a0 i))&&di k.F)&&decide (0<=k.Calls/\k.Calls<=100000/\k.a0.length<=40)
def rangeIn(pages:Int)(r:aA):Bool:=decide (1<=r.b1/\r.b1<=pages/\0<=r.At/\r.At<=pages - r.b1)
def gx(pages:Int)(xs:List aA)(i:Nat):Bool:=rangeIn pages (nth xs i)&&decide (i=0\/(nth xs (i - 1)).At+(nth xs (i - 1)).b1<(nth xs i).At)
def bC(pages:Int)(xs:List aA):Bool:=cY xs.length (gx pages xs)&&decide (1<=pages/\pages<=32)
def rj(page:Int)(r:aA):Bool:=decide (r.At<=page)&&decide (page<IntKind.i64.wrap (r.At+r.b1))
def lim(k:Int):Int:=if k=0 then 65535 else if k=1 then 255 else if k=2 then 15 else if k=3 then 3 else 0
def slots(k:Int):Int:=if k=0 then 16 else if k=1 then 8 else if k=2 then 4 else if k=3 then 2 else 0
def bf(s:ax):Bool:=decide (0<=s.R/\s.R<=31/\0<=s.d/\s.d<=3/\0<=s.b2/\s.b2<=lim s.d)
def fL(n:Int):Int:=if 9<=n/\n<=1000 then(n+15) / 16 else 0
def bJ(l:a8):Bool:=decide (9<=l.q/\l.q<=1000/\l.a3=(l.q+15) / 16/\0<=l.R/\l.R<=32 - l.a3)
def lpgs(l:a8)(n:Nat):List Int:=(List.range n).map λ(i:Nat)=>l.R+i
def pgs(sp:List ax)(la:List a8):List Int:=sp.map (·.R)++la.flatMap λl=>lpgs l l.a3.toNat
def bn(sp:List ax)(la:List a8):Bool:=(sp.all bf&&la.all bJ)&&decide (pgs sp la).Nodup
def cz(s:ax)(a:Int):Bool:=bf s&&decide (16*s.R<=a/\a<=16*s.R+15)
def aS(b i:Int):Bool:=decide (0<=b/\0<=i/\i<=15/\b / 2 ^ i.toNat % 2=1)
def bq(l:a8)(a:Int):Bool:=bJ l&&decide (16*l.R<=a/\a<=16*l.R+l.q - 1)
def csz(k:Int):Int:=if 0<=k/\k<=3 then 2 ^ k.toNat else 0
def iR(s:ax)(a:Int):Int × Int:=if cz s a then((a - 16*s.R) / csz s.d,(a - 16*s.R) % csz s.d) else(-1,-1)
def ow(i:Nat)(s:ax)(a:Int):jw:=⟨if aS s.b2 ((a - 16*s.R) / csz s.d) then 1 else 2,i,(a - 16*s.R) / csz s.d,(a - 16*s.R) % csz s.d⟩
def denotes(sp:List ax)(la:List a8)(a:Int):jw:=
 match sp.findIdx? (cz · a) with
 | some i=>ow i (nth sp i) a
 | none=>match la.findIdx? (bq · a) with
  | some i=>⟨3,i,0,a - 16*(nth la i).R⟩
  | none=>⟨0,0,0,0⟩
theorem wb{α:Type}{pr:α->Bool}{xs:List α}{i:Nat}{y:α}(a:xs[i]? = some y)(b:pr y=true)(c:∀(j:Nat)(z:α),j<i->xs[j]? = some z->pr z=false):xs.findIdx? pr=some i:=by
 obtain⟨d,rfl⟩:=I2.1 a;exact V6.2 ⟨d,b,λj e=>by
   have:=c j _ e (C2 ω);simp[this]⟩
theorem wV{α:Type}{pr:α->Bool}{xs:List α}{i:Nat}(d:xs.length<=i)(b:∀(j:Nat)(z:α),j<i->xs[j]? = some z->pr z=false):xs.findIdx? pr=none:=
 List.findIdx?_eq_none_iff.2 λz c=>by
  obtain⟨j,a⟩:=List.mem_iff_getElem?.1 c;exact b j z (by have:=(I2.1 a).1;omega) a
theorem dv{α:Type}{pr:α->Bool}{xs:List α}{i:Nat}{y:α}(c:xs[i]? = some y)(d:pr y=false)(e:∀(j:Nat)(z:α),j<i->xs[j]? = some z->pr z=false):∀(j:Nat)(z:α),j<i+1->xs[j]? = some z->pr z=false:=by
 intro j z f a;rcases Nat.lt_or_ge j i with b|b
 ·exact e j z b a
 obtain rfl:j=i:=ω
 rw[c]at a;cases a;exact d
def d9{α:Type}(pr:α->Bool)(xs:List α):Int:=match xs.findIdx? pr with|some i=>(i:Nat)|none=>-1
theorem dE{α:Type}{pr:α->Bool}{xs:List α}{i:Nat}{y:α}(a:xs[i]? = some y)(b:pr y=true)(c:∀(j:Nat)(z:α),j<i->xs[j]? = some z->pr z=false):d9 pr xs=(i:Nat):=by
 unfold d9;rw[wb a b c]
theorem gk{α:Type}{pr:α->Bool}{xs:List α}{i:Nat}(a:xs.length<=i)(b:∀(j:Nat)(z:α),j<i->xs[j]? = some z->pr z=false):d9 pr xs = -1:=by
 unfold d9;rw[wV a b]
theorem jA{α:Type}(pr:α->Bool)(xs:List α):decide (d9 pr xs≥0)=xs.any pr:=by
 unfold d9;cases h:xs.findIdx? pr with
 | none=>
  have:=List.findIdx?_eq_none_iff.1 h;have a:xs.any pr=false:=by rw[List.any_eq_false];intro y b;simp[this y b]
  rw[a];rfl
 | some i=>
  obtain⟨c,d,-⟩:=V6.1 h;have a:xs.any pr=true:=Y3.2 ⟨_,List.getElem_mem c,d⟩;rw[a];simp
def meshable(s t:ax):Bool:=(bf s&&bf t)&&decide (s.d=t.d/\s.R≠t.R/\s.b2.toNat &&& t.b2.toNat=0)
def nt(n:Int)(p:dw):Bool:=decide (0<=p.To/\p.To<=n - 1/\0<=p.Addr)
def Po(z:Int):Bool:=decide (0<=z)
def gN(m:aK)(i:Nat):Bool:=(nth m.U i).all (nt m.U.length)&&(nth m.a1 i).all Po
def bx(m:aK):Nat->Int
 | 0=>0
 | i+1=>bx m i+((nth m.U i).length+(nth m.a1 i).length)
def bN(m:aK):Bool:=(decide (1<=m.U.length/\m.U.length<=4/\m.a1.length=m.U.length)&&cY m.U.length (gN m))&&decide (bx m m.U.length<=30)
def aN(m:aK):List Int:=if bN m then(m.U.flatMap λl=>l.map (·.Addr))++m.a1.flatten else []
def eR(a:Int)(y:aQ):Bool:=decide (y.Addr=a)
def kJ(xs:List aQ)(i:Nat):Bool:=decide (0<=(nth xs i).d/\(nth xs i).d<=3/\0<=(nth xs i).Addr/\0<=(nth xs i).b7/\(i=0\/(nth xs (i - 1)).b7<=(nth xs i).b7))&&!(xs.take i).any (eR (nth xs i).Addr)
def quarCells(xs:List aQ):Nat->Int
 | 0=>0
 | i+1=>quarCells xs i+csz (nth xs i).d
def gv(q:bL):Bool:=cY q.a6.length (kJ q.a6)&&decide (0<=q.c1/\q.c1<=500/\quarCells q.a6 q.a6.length<=q.c1)
def mu(xs:List Int)(i:Nat):Bool:=decide (0<=nth xs i/\nth xs i<=15/\(i=0\/nth xs (i - 1)<nth xs i))
def eK(p:bY):Bool:=cY p.S.length (mu p.S)&&decide (0<=p.a2/\p.a2<=31/\0<=p.w/\p.w<=31/\p.a2≠p.w)
def ju(j:cg):Bool:=eK j.V&&decide (0<=j.b0/\j.b0<=5/\0<=j.a/\j.a<=j.V.S.length)
def rJ(j:cg):Bool:=decide (j.V.a2=0/\j.V.w=0/\j.V.S.length=0/\j.b0=0/\j.a=0)
def aT(h:ab)(p:Int):List Int:=if(ac h.G.F.Q p).j=0 then [] else pagesOn h.G.F.Q (ac h.G.F.Q p).e
def ko(p:Int)(s:ax):Bool:=decide (s.R=p)
def gI(h:ab)(p:Int):Int:=d9 (ko p) h.K
def aJ(n:Int):Int:=if n<1 then -1 else if n<=1 then 0 else if n<=2 then 1 else if n<=4 then 2 else if n<=8 then 3 else -1
set_option maxRecDepth 20000
set_option maxHeartbeats 2000000
theorem aG(n lo a:Int):ar Tryz.prog 144 false [.val none [I n],.val none [I lo],.val none [I a]] .one [B (decide (lo<=n/\n<=a))]:=by
 refine fO 15 [] Tryz.func144 rfl ?_
 repeat'(first|refine gO ?_|(conv=>whnf);first|with_reducible refine Bf.D (λb=>?_) (λb=>?_))
 all_goals exact W0 (λz=>[B z]) (by simp;try omega)
theorem aM(n lo a:Int):ar Tryz.prog 60 false [.val none [I n],.val none [I lo],.val none [I a]] .one [B (decide (lo<=n/\n<=a))]:=by
 refine fO 15 [] Tryz.func60 rfl ?_
 repeat'(first|refine gO ?_|(conv=>whnf);first|with_reducible refine Bf.D (λb=>?_) (λb=>?_))
 all_goals exact W0 (λz=>[B z]) (by simp;try omega)
theorem gc(k:Int):ar Tryz.prog 246 false [.val none [I k]] .one [B (decide (0<=k/\k<=3))]:=by
 refine fO 5 [] Tryz.func246 rfl ?_
 repeat'(first|refine gO ?_|(conv=>whnf);first|refine C7 (aM k 0 3) ?_)
 rfl
theorem ef(k:Int):ar Tryz.prog 94 false [.val none [I k]] .one [I (csz k)]:=by
 by_cases b:0<=k/\k<=3
 ·obtain rfl|rfl|rfl|rfl:k=0\/k=1\/k=2\/k=3:=ω
  all_goals
   refine fO 8 [] Tryz.func94 rfl ?_
   repeat'(first|refine gD ?_|(conv=>whnf);first|with_reducible refine Bf.D (λa=>?_) (λa=>?_)|refine C7 (gc _) ?_|refine CN (by decide) ?_|refine CM rfl ?_)
   exact W0 (λz=>[I z]) (by decide)
 refine fO 8 [] Tryz.func94 rfl ?_
 repeat'(first|refine gD ?_|(conv=>whnf);first|with_reducible refine Bf.D (λa=>?_) (λa=>?_)|refine C7 (gc _) ?_)
 exact W0 (λz=>[I z]) (by unfold csz;rw[C8 b])
theorem dZ(k:Int):ar Tryz.prog 375 false [.val none [I k]] .one [I (csz k)]:=by
 by_cases b:0<=k/\k<=3
 ·obtain rfl|rfl|rfl|rfl:k=0\/k=1\/k=2\/k=3:=ω
  all_goals
   refine fO 9 [] Tryz.func375 rfl ?_
   repeat'(first|refine gD ?_|(conv=>whnf);first|with_reducible refine Bf.D (λa=>?_) (λa=>?_)|refine C7 (aG _ 0 3) ?_|refine CN (by decide) ?_|refine CM rfl ?_)
   exact W0 (λz=>[I z]) (by decide)
 refine fO 9 [] Tryz.func375 rfl ?_
 repeat'(first|refine gD ?_|(conv=>whnf);first|with_reducible refine Bf.D (λa=>?_) (λa=>?_)|refine C7 (aG _ 0 3) ?_)
 exact W0 (λz=>[I z]) (by unfold csz;rw[C8 b])
theorem mL(xs:List Int)(a:Int)(j:xs.length<=9223372036854775807):ar Tryz.prog 367 false [.val none (aD .X xs),.val none [I a]] .one [B (decide (a∈xs))]:=by
 refine fO 18 [] Tryz.func367 rfl ?_
 repeat'(first|refine gO ?_|fail)
 (conv=>whnf)
 refine CE (ι:=Nat) (λi=>[(0,.H .one (aD .X xs)),(1,.H .one [I a]),(5,.H .one [I (i:Nat)])]) (λi=>i<=xs.length/\a∉xs.take i) (λi=>xs.length - i) 0 ?_ ⟨U0 _,by simp⟩ λi g=>?_
 ·exact wB
 obtain⟨g,b⟩:=g;by_cases c:i<xs.length
 ·obtain⟨y,d⟩ : ∃y,xs[i]? = some y:=⟨_,C2 c⟩
  repeat'(first|refine gD ?_|(conv=>whnf);first|with_reducible (first|refine CC (aa d) ?_|refine Bf.E (λh=>?_) (λh=>?_)))
  ·exact W0 (λz=>[B z]) (by symm;simp;rw[<-‹y=a›];exact W1 d)
  (conv=>whnf)
  refine CD (i+1) ⟨ω,?_⟩ ω ?_
  ·rw[I5,d]
   simp only[Option.toList_some,Z2,I1,not_or];exact⟨b,λe=>‹y≠a› e.symm⟩
  exact wB
 repeat'(first|refine gD ?_|fail)
 rw[W6 ω]at b;exact W0 (λz=>[B z]) (by symm;simpa using b)
set_option maxHeartbeats 4000000
def good(k:Int)(s:List Int)(a:Int):Prop:=0<=a/\a<=511/\a.tmod (csz k)=0/\a∉s
instance (k:Int) (s:List Int) (a:Int):Decidable (good k s a):=by unfold good;exact inferInstance
def rH(k:Int):List Int->List Int->Option (List Int)
 | s,[]=>some s
 | s,a::l=>if good k s a then rH k (s++[a]) l else none
def fj(k:Nat)(s l:List Int):Option (List Int):=if l.length<=8/\k<=3 then rH k s l else none
def gB:Nat->List Int->List (List Int)->Option (List Int)
 | _,s,[]=>some s
 | k,s,l::ls=>(fj k s l).bind λa=>gB (k+1) a ls
def bA(c:aE):Bool:=decide (c.b.length=4)&&(gB 0 [] c.b).isSome
theorem ri(k:Int):∀(a s b:List Int),rH k s (a++b)=(rH k s a).bind λc=>rH k c b
 | [],s,b=>rfl
 | x::a,s,b=>by
  simp only[List.cons_append,rH];split
  ·exact ri k a _ b
  rfl
theorem oM:∀(a:List (List Int))(k:Nat)(s:List Int)(b:List (List Int)),gB k s (a++b)=(gB k s a).bind λc=>gB (k+a.length) c b
 | [],k,s,b=>rfl
 | l::a,k,s,b=>by
  simp only[List.cons_append,gB,Option.bind_assoc,List.length_cons]
  congr 1;funext c
  rw[oM a (k+1) c b,show k+1+a.length=k+(a.length+1) by omega]
theorem Jc{k:Int}{l b s:List Int}{j:Nat}{a:Int}(c:l[j]? = some a)(h:rH k b (l.take j)=some s)(d:good k s a):rH k b (l.take (j+1))=some (s++[a]):=by
 rw[I5,c,Option.toList_some,ri,h];simp[rH,d]
theorem Ls{k:Nat}{l c s:List Int}{j:Nat}{a:Int}(d:l[j]? = some a)(h:rH k c (l.take j)=some s)(e:¬good k s a):fj k c l=none:=by
 unfold fj;split
 ·have:l=l.take j++(a::l.drop (j+1)):=by
   obtain⟨b,rfl⟩:=I2.1 d;rw[<-List.drop_eq_getElem_cons b,List.take_append_drop]
  rw[this,ri,h];simp[rH,e]
 rfl
theorem Bg{k:Int} : ∀{l s b:List Int},rH k s l=some b->b.length=s.length+l.length
 | [],s,b,h=>by simp only[rH,X0]at h;subst h;simp
 | a::l,s,b,h=>by
  simp only[rH]at h;split at h
  ·have:=Bg h;simp at this |-;omega
  cases h
theorem uH{a:List (List Int)}{i:Nat}{l s:List Int}(b:a[i]? = some l)(h:gB 0 [] (a.take i)=some s):gB 0 [] (a.take (i+1))=fj i s l:=by
 have c:=(I2.1 b).1;rw[I5,b,Option.toList_some,oM,h];simp only[Option.bind_some,gB,U6,U1,Nat.min_eq_left (Nat.le_of_lt c)];cases fj i s l<;>rfl
theorem kX{c:aE}{i:Nat}{l s:List Int}(b:c.b[i]? = some l)(h:gB 0 [] (c.b.take i)=some s)(d:fj i s l=none):bA c=false:=by
 have a:=uH b h;rw[d]at a;have e:gB 0 [] c.b=none:=by
  rw[<-List.take_append_drop (i+1) c.b,oM,a];rfl
 unfold bA;rw[e];simp
theorem EC:∀{b:List (List Int)}{k:Nat}{s a:List Int},gB k s b=some a->a.length<=s.length+8*b.length
 | [],k,s,a,h=>by simp only[gB,X0]at h;subst h;simp
 | l::b,k,s,a,h=>by
  simp only[gB]at h;unfold fj at h;split at h
  ·cases c:rH k s l with
   | none=>rw[c]at h;cases h
   | some d=>
    rw[c]at h;have e:=Bg c;have f:=EC (show gB (k+1) d b=some a from h);simp only[List.length_cons];omega
  cases h
theorem N2{i:Nat}(h:i<=3):csz (i:Int)≠0:=by
 obtain rfl|rfl|rfl|rfl:i=0\/i=1\/i=2\/i=3:=ω
 all_goals decide
theorem cn{l:List Int} : ∀r∈l.map (rI .own),r.length=1:=by
 intro r a;obtain⟨z,-,rfl⟩:=C4.1 a;rfl
theorem nJ(c:aE)(u:aE.sml c):ar Tryz.prog 229 false [.val (some 1) (aE.enc .X c)] .one [B (bA c)]:=by
 have H:=u.1;refine fO 60 [] Tryz.func229 rfl ?_
 repeat'(first|refine gO ?_|(conv=>whnf);first|with_reducible refine Bf.N (λe=>?_) (λe=>?_))
 ·exact W0 (λz=>[B z]) (by symm;unfold bA;rw[T0 ω];rfl)
 have w:c.b.length=4:=ω
 (conv=>whnf)
 refine CE (ι:=Nat × List Int) (λi=>[(1,.H .box (aE.enc .X c)),(3,.H .one (aD .own i.2)),(4,.H .one [I (i.1:Nat)])]) (λi=>i.1<=4/\gB 0 [] (c.b.take i.1)=some i.2) (λi=>4 - i.1) (0,[]) ?_ ⟨U0 _,rfl⟩ λi k=>?_
 ·exact wB
 obtain⟨i,s⟩:=i;obtain⟨k,b⟩:=k;simp only at k b |-;have g:=EC b;rw[U1]at g;simp only[List.length_nil]at g;by_cases E:i<4
 ·obtain⟨l,d⟩ : ∃l,c.b[i]? = some l:=⟨_,C2 ω⟩
  have F:l.length<=1048576:=u.2 l (W1 d)
  repeat'(first|refine gD ?_|(conv=>whnf);first|with_reducible (first|refine CC (aa d) ?_|refine Bf.D (λe=>?_) (λe=>?_)))
  ·exact W0 (λz=>[B z]) (kX d b (by unfold fj;rw[C8 ω])).symm
  have n:l.length<=8:=ω
  (conv=>whnf)
  refine CE (ι:=Nat × List Int) (λj=>[(1,.H .box (aE.enc .X c)),(3,.H .one (aD .own j.2)),(4,.H .one [I (i:Nat)]),(5,.H .one [I (j.1:Nat)])]) (λj=>j.1<=l.length/\rH i s (l.take j.1)=some j.2) (λj=>l.length - j.1) (0,s) ?_ ⟨U0 _,rfl⟩ λj o=>?_
  ·exact wB
  obtain⟨j,p⟩:=j;obtain⟨o,a⟩:=o;simp only at o a |-;have h:=Bg a;rw[U1]at h;by_cases q:j<l.length
  ·obtain⟨y,t⟩ : ∃y,l[j]? = some y:=⟨_,C2 q⟩
   repeat'(first|refine gD ?_|(conv=>whnf);first|with_reducible (first|refine CC (aa d) ?_|refine CC (aa t) ?_|refine Bf.D (λe=>?_) (λe=>?_)|refine Bf.N (λe=>?_) (λe=>?_))|refine C7 (aG y 0 511) ?_|refine C7 (dZ (i:Nat)) ?_|refine CN (N2 ω) ?_|refine CQ rfl ?_|refine CG (mL p y ω) ⟨⟨rfl,dX _⟩,⟨rfl,rfl⟩,trivial⟩ ?_|refine CT cn (λr G=>by rw[I1.1 G];rfl) (by simp[aY,eg]) (by simp;omega) (by simp only[Z0];exact yI (by simp;omega) (by decide)) rfl ?_)
   all_goals first
    | exact W0 (λz=>[B z]) (kX d b (Ls t a λ⟨J,K,L,M⟩=>by first|contradiction|omega)).symm
    | ((conv=>whnf)
       refine CD (j+1,p++[y]) ⟨(by simp only;omega),Jc t a ⟨ω,ω,(by assumption),(by assumption)⟩⟩ (by simp only;omega) ?_
       (repeat'(first|exact trivial|rfl|exact CK rfl (CK (W0 (C.s dQ.own) (by simp[rI])) trivial)|refine CK ?_ ?_)))
  repeat'(first|refine gD ?_|(conv=>whnf);first|with_reducible refine CC (aa d) ?_)
  (conv=>whnf)
  rw[W6 ω]at a;refine CD (i+1,p) ⟨(by simp only;omega),(by rw[uH d b];unfold fj;rw[C9 ⟨n,ω⟩];exact a)⟩ (by simp only;omega) ?_;exact wB
 repeat'(first|refine gD ?_|fail)
 rw[W6 ω]at b;exact W0 (λz=>[B z]) (by symm;unfold bA;rw[b,O0 w];rfl)
def fW(s:List Int):List (Int × Value):=s.map λa=>(a,.bool true)
theorem nC(a:Int):∀(s:List Int),mlook (fW s) a (.bool false)=.bool (decide (a∈s))
 | []=>by simp[fW,mlook]
 | x::s=>by
  have b:=nC a s;simp only[fW,V5,mlook]at b |-;by_cases h:x=a
  ·rw[C9 h];simp[h]
  rw[C8 h,b]
  congr 1
  simp[show ¬a=x from λe=>h e.symm]
theorem tH{a:Int} : ∀{s:List Int},a∉s->fW (s++[a])=mput (fW s) a (.bool true)
 | [],_=>rfl
 | x::s,h=>by
  simp only[List.mem_cons,not_or]at h;have b:=tH h.2;simp only[fW,List.cons_append,V5,mput]at b |-;rw[C8 λe=>h.1 e.symm,b]
theorem Df(c:aE)(u:aE.sml c):ar Tryz.prog 77 false [.val (some 1) (aE.enc .X c)] .one [B (bA c)]:=by
 have C:=u.1;refine fO 54 [] Tryz.func77 rfl ?_
 repeat'(first|refine gO ?_|fail)
 (conv=>whnf)
 refine CE (ι:=Nat × List Int) (λi=>[(1,.H .box (aE.enc .X c)),(3,.H .one [.m (fW i.2)]),(10,.H .one (j8 .X c.b)),(11,.H .one [I c.b.length]),(12,.H .one [I (i.1:Nat)])]) (λi=>i.1<=c.b.length/\gB 0 [] (c.b.take i.1)=some i.2) (λi=>c.b.length - i.1) (0,[]) ?_ ⟨U0 _,rfl⟩ λi h=>?_
 ·exact wB
 obtain⟨i,s⟩:=i;obtain⟨h,b⟩:=h;simp only at h b |-;by_cases k:i<c.b.length
 ·obtain⟨l,d⟩ : ∃l,c.b[i]? = some l:=⟨_,C2 k⟩
  have w:l.length<=1048576:=u.2 l (W1 d)
  repeat'(first|refine gD ?_|(conv=>whnf);first|with_reducible (first|refine CC (aa d) ?_|refine Bf.D (λe=>?_) (λe=>?_))|refine C7 (gc (i:Nat)) ?_)
  ·exact W0 (λz=>[B z]) (kX d b (by unfold fj;rw[C8 ω])).symm
  rotate_left
  ·exact W0 (λz=>[B z]) (kX d b (by unfold fj;rw[C8 ω])).symm
  have n:l.length<=8:=ω
  have o:i<=3:=ω
  (conv=>whnf)
  refine CE (ι:=Nat × List Int) (λj=>[(1,.H .box (aE.enc .X c)),(3,.H .one [.m (fW j.2)]),(4,.H .one [I (i:Nat)]),(10,.H .one (j8 .X c.b)),(11,.H .one [I c.b.length]),(12,.H .one [I (i:Nat)]),(25,.H .one (aD .X l)),(26,.H .one [I l.length]),(27,.H .one [I (j.1:Nat)])]) (λj=>j.1<=l.length/\rH i s (l.take j.1)=some j.2) (λj=>l.length - j.1) (0,s) ?_ ⟨U0 _,rfl⟩ λj p=>?_
  ·exact wB
  obtain⟨j,q⟩:=j;obtain⟨p,a⟩:=p;simp only at p a |-;by_cases r:j<l.length
  ·obtain⟨y,t⟩ : ∃y,l[j]? = some y:=⟨_,C2 r⟩
   repeat'(first|refine gD ?_|(conv=>whnf);first|with_reducible (first|refine CC (aa d) ?_|refine CC (aa t) ?_|refine Bf.D (λe=>?_) (λe=>?_)|refine Bf.N (λe=>?_) (λe=>?_))|refine C7 (aM y 0 511) ?_|refine C7 (ef (i:Nat)) ?_|refine CN (N2 ω) ?_|refine CQ rfl ?_|refine Ml.mk (nC y q) ?_|refine Mu.mk (tH (by assumption)) ?_)
   all_goals first
    | exact W0 (λz=>[B z]) (kX d b (Ls t a λ⟨E,F,G,H⟩=>by first|contradiction|omega)).symm
    | ((conv=>whnf)
       refine CD (j+1,q++[y]) ⟨(by simp only;omega),Jc t a ⟨ω,ω,(by assumption),(by assumption)⟩⟩ (by simp only;omega) ?_
       (exact wA))
  repeat'(first|refine gD ?_|fail)
  (conv=>whnf)
  rw[W6 ω]at a;refine CD (i+1,q) ⟨(by simp only;omega),(by rw[uH d b];unfold fj;rw[C9 ⟨n,o⟩];exact a)⟩ (by simp only;omega) ?_;exact wB
 repeat'(first|refine gD ?_|fail)
 rw[W6 ω]at b;have g:((c.b.length:Int) == 4)=decide (c.b.length=4):=by
  by_cases g:c.b.length=4
  ·simp[g]
  rw[T0 g];simp;omega
 exact W0 (λz=>[B z]) (g.trans (by unfold bA;rw[b];simp))
theorem H9:∀{b:List (List Int)}{k:Nat}{s c:List Int},gB k s b=some c->∀l∈b,l.length<=8
 | [],k,s,c,h,l,a=>by simp at a
 | x::b,k,s,c,h,l,a=>by
  simp only[gB]at h;unfold fj at h;split at h
  ·rename_i e
   rcases List.mem_cons.1 a with rfl|a
   ·exact e.1
   cases d:rH k s x with
   | none=>rw[d]at h;cases h
   | some f=>rw[d]at h;exact H9 (show gB (k+1) f b=some c from h) l a
  cases h
theorem uQ{c:aE}(h:bA c=true):c.b.length=4/\∀l∈c.b,l.length<=8:=by
 unfold bA at h;simp only[I0,C0]at h;obtain⟨s,a⟩:=Option.isSome_iff_exists.1 h.2;exact⟨h.1,H9 a⟩
theorem zL(f:bc)(n:bc.sml f):ar Tryz.prog 83 false [.val (some 2) (bc.enc .X f)] .one [B (du f)]:=by
 have C:=n.1.1;have E:f.a5.length<=1048576:=n.2;refine fO 61 [] Tryz.func83 rfl ?_
 repeat'(first|refine gO ?_|(conv=>whnf);first|with_reducible (first|refine Bf.D (λa=>?_) (λa=>?_)|refine Bf.N (λa=>?_) (λa=>?_))|refine C7 (aG f.S.length 1 32) ?_)
 ·exact W0 (λz=>[B z]) (by symm;unfold du;rw[T0 (by omega:¬(f.a5.length=f.S.length))];simp)
 rotate_left
 ·exact W0 (λz=>[B z]) (by symm;unfold du;rw[T0 (by omega:¬(1<=f.S.length/\f.S.length<=32))];rfl)
 have h:1<=f.S.length/\f.S.length<=32:=ω
 have j:f.a5.length=f.S.length:=ω
 (conv=>whnf)
 refine CE (ι:=Nat) (λi=>[(1,.H .box (bc.enc .X f)),(3,.H .one [I (i:Nat)])]) (λi=>i<=f.S.length/\((f.S.zip f.a5).take i).all (λq=>gZ q.1 q.2)=true) (λi=>f.S.length - i) 0 ?_ ⟨U0 _,rfl⟩ λi o=>?_
 ·exact wB
 obtain⟨o,t⟩:=o;by_cases l:i<f.S.length
 ·obtain⟨r,c⟩ : ∃r,f.S[i]? = some r:=⟨_,C2 l⟩
  obtain⟨u,b⟩ : ∃u,f.a5[i]? = some u:=⟨_,C2 ω⟩
  repeat'(first|refine gD ?_|(conv=>whnf);first|with_reducible (first|refine CC (aa c) ?_|refine Bf.N (λa=>?_) (λa=>?_)))
  ·exact W0 (λz=>[B z]) (iM c b (by unfold gZ;rw[T0 ω];rfl)).symm
  have g:r.length=16:=ω
  (conv=>whnf)
  refine CE (ι:=Nat) (λk=>[(1,.H .box (bc.enc .X f)),(3,.H .one [I (i:Nat)]),(4,.H .one [I (k:Nat)])]) (λk=>k<=16/\(r.take k).all (iH u)=true) (λk=>16 - k) 0 ?_ ⟨U0 _,rfl⟩ λk w=>?_
  ·exact wB
  obtain⟨w,d⟩:=w;by_cases y:k<16
  ·obtain⟨v,e⟩ : ∃v,r[k]? = some v:=⟨_,C2 ω⟩
   cases u with
   | true=>
    repeat'(first|refine gD ?_|(conv=>whnf);first|with_reducible (first|refine CC (aa c) ?_|refine CC (aa b) ?_|refine CC (aa e) ?_|refine Bf.D (λa=>?_) (λa=>?_)|refine Bf.N (λa=>?_) (λa=>?_))|refine C7 (aG v 0 999) ?_)
    all_goals first
     | exact W0 (λz=>[B z]) (iM c b (sK e (by first|(unfold iH;rw[T0 ω];rfl)|(unfold iH;rw[T0 (p:=v=0) ω];simp)))).symm
     | ((conv=>whnf)
        refine CD (ι:=Nat) (k+1) ⟨ω,cS e d (by unfold iH;first|(rw[O0 ω];rfl)|(rw[O0 (p:=0<=v/\v<=999) ω,O0 (p:=v=0) ω];rfl))⟩ ω ?_
        (exact wA))
   | false=>
    repeat'(first|refine gD ?_|(conv=>whnf);first|with_reducible (first|refine CC (aa c) ?_|refine CC (aa b) ?_|refine CC (aa e) ?_|refine Bf.D (λa=>?_) (λa=>?_)|refine Bf.N (λa=>?_) (λa=>?_))|refine C7 (aG v 0 999) ?_)
    all_goals first
     | exact W0 (λz=>[B z]) (iM c b (sK e (by first|(unfold iH;rw[T0 ω];rfl)|(unfold iH;rw[T0 (p:=v=0) ω];simp)))).symm
     | ((conv=>whnf)
        refine CD (ι:=Nat) (k+1) ⟨ω,cS e d (by unfold iH;first|(rw[O0 ω];rfl)|(rw[O0 (p:=0<=v/\v<=999) ω,O0 (p:=v=0) ω];rfl))⟩ ω ?_
        (exact wA))
  repeat'(first|refine gD ?_|fail)
  (conv=>whnf)
  refine CD (i+1) ⟨ω,cS (wh c b) t (by unfold gZ;rw[gQ ω d];simp[g])⟩ ω ?_;exact wB
 repeat'(first|refine gD ?_|fail)
 exact W0 (λz=>[B z]) (by symm;unfold du;rw[gQ (by rw[List.length_zip];omega) t];simp[h,j])
theorem yS(f:bc)(h:bc.sml f):ar Tryz.prog 254 false [.val (some 2) (bc.enc .X f)] .one [B (du f)]:=by
 have C:=h.1.1;have E:f.a5.length<=1048576:=h.2;refine fO 55 [] Tryz.func254 rfl ?_
 repeat'(first|refine gO ?_|(conv=>whnf);first|with_reducible (first|refine Bf.D (λa=>?_) (λa=>?_)|refine Bf.N (λa=>?_) (λa=>?_))|refine C7 (aM f.S.length 1 32) ?_)
 ·exact W0 (λz=>[B z]) (by symm;unfold du;rw[T0 (by omega:¬(f.a5.length=f.S.length))];simp)
 rotate_left
 ·exact W0 (λz=>[B z]) (by symm;unfold du;rw[T0 (by omega:¬(1<=f.S.length/\f.S.length<=32))];rfl)
 have j:1<=f.S.length/\f.S.length<=32:=ω
 have l:f.a5.length=f.S.length:=ω
 (conv=>whnf)
 refine CE (ι:=Nat) (λi=>[(1,.H .box (bc.enc .X f)),(22,.H .one (j8 .X f.S)),(23,.H .one [I (f.S.length)]),(24,.H .one [I ((i:Nat):Int)])]) (λi=>i<=f.S.length/\((f.S.zip f.a5).take i).all (λq=>gZ q.1 q.2)=true) (λi=>f.S.length - i) (0) ?_ (⟨U0 _,rfl⟩) λi o=>?_
 ·exact wB
 obtain⟨o,p⟩:=o;by_cases n:i<f.S.length
 ·obtain⟨r,c⟩ : ∃r,f.S[i]? = some r:=⟨_,C2 n⟩
  obtain⟨u,b⟩ : ∃u,f.a5[i]? = some u:=⟨_,C2 ω⟩
  have y:r.length<=1048576:=h.1.2 r (W1 c)
  repeat'(first|refine gD ?_|(conv=>whnf);first|with_reducible (first|refine CC (aa c) ?_|refine Bf.N (λa=>?_) (λa=>?_)))
  ·exact W0 (λz=>[B z]) (iM c b (by unfold gZ;rw[T0 ω];rfl)).symm
  have g:r.length=16:=ω
  (conv=>whnf)
  refine CE (ι:=Nat) (λk=>[(1,.H .box (bc.enc .X f)),(3,.H .one [I ((i:Nat):Int)]),(22,.H .one (j8 .X f.S)),(23,.H .one [I (f.S.length)]),(24,.H .one [I ((i:Nat):Int)]),(32,.H .one (aD .X r)),(33,.H .one [I (r.length)]),(34,.H .one [I ((k:Nat):Int)])]) (λk=>k<=r.length/\(r.take k).all (iH u)=true) (λk=>r.length - k) (0) ?_ (⟨U0 _,rfl⟩) λk t=>?_
  ·exact wB
  obtain⟨t,d⟩:=t;by_cases w:k<r.length
  ·obtain⟨v,e⟩ : ∃v,r[k]? = some v:=⟨_,C2 ω⟩
   cases u with
   | true=>
    repeat'(first|refine gD ?_|(conv=>whnf);first|with_reducible (first|refine CC (aa c) ?_|refine CC (aa b) ?_|refine CC (aa e) ?_|refine Bf.D (λa=>?_) (λa=>?_)|refine Bf.N (λa=>?_) (λa=>?_))|refine C7 (aM v 0 999) ?_)
    all_goals first
     | exact W0 (λz=>[B z]) (iM c b (sK e (by unfold iH;grind))).symm
     | ((conv=>whnf)
        refine CD (ι:=Nat) (k+1) ⟨ω,cS e d (by unfold iH;grind)⟩ ω ?_
        (exact wA))
   | false=>
    repeat'(first|refine gD ?_|(conv=>whnf);first|with_reducible (first|refine CC (aa c) ?_|refine CC (aa b) ?_|refine CC (aa e) ?_|refine Bf.D (λa=>?_) (λa=>?_)|refine Bf.N (λa=>?_) (λa=>?_))|refine C7 (aM v 0 999) ?_)
    all_goals first
     | exact W0 (λz=>[B z]) (iM c b (sK e (by unfold iH;grind))).symm
     | ((conv=>whnf)
        refine CD (ι:=Nat) (k+1) ⟨ω,cS e d (by unfold iH;grind)⟩ ω ?_
        (exact wA))
  repeat'(first|refine gD ?_|fail)
  (conv=>whnf)
  refine CD (i+1) ⟨ω,cS (wh c b) p (by unfold gZ;rw[gQ ω d];simp[g])⟩ ω ?_;exact wB
 repeat'(first|refine gD ?_|fail)
 exact W0 (λz=>[B z]) (by symm;unfold du;rw[gQ (by rw[List.length_zip];omega) p];simp[j,l])
theorem BP(t:aH)(b:Int)(g:aH.sml t):ar Tryz.prog 472 false [.val (some 1) (aH.enc .X t),.val none [I b]] .one [B (gw t b)]:=by
 have k:=g.1;refine fO 54 [] Tryz.func472 rfl ?_
 repeat'(first|refine gO ?_|fail)
 (conv=>whnf)
 refine CE (ι:=Nat) (λi=>[(1,.H .one [I (b)]),(2,.H .box (aH.enc .X t)),(5,.H .one [I ((i:Nat):Int)])]) (λi=>i<=t.J.length/\cY i (λj=>ky b (nth t.J j))=true) (λi=>t.J.length - i) 0 ?_ ⟨U0 _,rfl⟩ λi c=>?_
 ·exact wB
 obtain⟨c,d⟩:=c;by_cases e:i<t.J.length
 ·have h:=ao e
  repeat'(first|refine gD ?_|(conv=>whnf);first|with_reducible (first|refine CC (aa h) ?_|refine Bf.D (λa=>?_) (λa=>?_)|refine Bf.N (λa=>?_) (λa=>?_)|refine Bf.E (λa=>?_) (λa=>?_))|refine C7 (aG _ 0 2) ?_)
  all_goals first
   | exact W0 (λz=>[B z]) ((by symm;unfold gw;rw[cA e (T0 (by grind))];rfl))
   | ((conv=>whnf);refine CD (i+1) ⟨ω,bS d (O0 (by grind))⟩ ω ?_;(exact wB))
 repeat'(first|refine gD ?_|(conv=>whnf);first|refine C7 (aG _ 1 32) ?_)
 obtain rfl:i=t.J.length:=ω
 exact W0 (λz=>[B z]) ((by unfold gw;rw[d,Bool.true_and];exact decide_eq_decide.2 ω))
theorem Dj(t:aH)(b:Int)(g:aH.sml t):ar Tryz.prog 255 false [.val (some 1) (aH.enc .X t),.val none [I b]] .one [B (gw t b)]:=by
 have k:=g.1;refine fO 49 [] Tryz.func255 rfl ?_
 repeat'(first|refine gO ?_|fail)
 (conv=>whnf)
 refine CE (ι:=Nat) (λi=>[(1,.H .one [I (b)]),(2,.H .box (aH.enc .X t)),(8,.H .one (Eh .X t.J)),(9,.H .one [I (t.J.length)]),(10,.H .one [I ((i:Nat):Int)])]) (λi=>i<=t.J.length/\cY i (λj=>ky b (nth t.J j))=true) (λi=>t.J.length - i) 0 ?_ ⟨U0 _,rfl⟩ λi c=>?_
 ·exact wB
 obtain⟨c,d⟩:=c;by_cases e:i<t.J.length
 ·have h:=ao e
  repeat'(first|refine gD ?_|(conv=>whnf);first|with_reducible (first|refine CC (aa h) ?_|refine Bf.D (λa=>?_) (λa=>?_)|refine Bf.N (λa=>?_) (λa=>?_)|refine Bf.E (λa=>?_) (λa=>?_))|refine C7 (aM _ 0 2) ?_)
  all_goals first
   | exact W0 (λz=>[B z]) ((by symm;unfold gw;rw[cA e (T0 (by grind))];rfl))
   | ((conv=>whnf);refine CD (i+1) ⟨ω,bS d (O0 (by grind))⟩ ω ?_;(exact wB))
 repeat'(first|refine gD ?_|(conv=>whnf);first|refine C7 (aM _ 1 32) ?_)
 obtain rfl:i=t.J.length:=ω
 exact W0 (λz=>[B z]) ((by unfold gw;rw[d,Bool.true_and];exact decide_eq_decide.2 ω))
theorem gP(t:aH)(f:Int)(c:aH.sml t):ar Tryz.prog 473 false [.val (some 1) (aH.enc .X t),.val none [I f]] .one (aD .own (pagesOn t f)):=by
 have j:=c.1;refine fO 37 [] Tryz.func473 rfl ?_ (.inr (bH _))
 repeat'(first|refine gO ?_|fail)
 (conv=>whnf)
 refine CE (ι:=Nat) (λi=>[(1,.H .one [I (f)]),(2,.H .box (aH.enc .X t)),(5,.H .one (aD .own (jU t f i))),(6,.H .one [I ((i:Nat):Int)])]) (λi=>i<=t.J.length) (λi=>t.J.length - i) (0) ?_ (U0 _) λi k=>?_
 ·exact wB
 have d:=uM t f i;by_cases e:i<t.J.length
 ·have g:=ao e
  repeat'(first|refine gD ?_|(conv=>whnf);first|with_reducible (first|refine CC (aa g) ?_|refine Bf.D (λb=>?_) (λb=>?_)|refine Bf.N (λb=>?_) (λb=>?_)|refine Bf.E (λb=>?_) (λb=>?_))|refine CT cn (λr h=>by rw[I1.1 h];rfl) (by simp[aY,eg]) (by simp;omega) (by simp only[Z0];exact yI (by simp;omega) (by decide)) rfl ?_)
  all_goals first
   |(have a:Lc t f i=true:=O0 (by grind)
     (conv=>whnf)
     refine CD (i+1) ω ω ?_;rw[AA a]
     (repeat'(first|exact trivial|rfl|exact CK rfl (CK (W0 (C.s dQ.own) (by simp[rI])) trivial)|refine CK ?_ ?_)))
   |(have a:Lc t f i=false:=T0 (by grind)
     (conv=>whnf)
     refine CD (i+1) ω ω ?_;rw[El a]
     (exact wA))
 repeat'(first|refine gD ?_|fail)
 obtain rfl:i=t.J.length:=ω
 rfl
theorem kM(t:aH)(f:Int)(c:aH.sml t):ar Tryz.prog 256 false [.val (some 1) (aH.enc .X t),.val none [I f]] .one (aD .own (pagesOn t f)):=by
 have j:=c.1;refine fO 32 [] Tryz.func256 rfl ?_ (.inr (bH _))
 repeat'(first|refine gO ?_|fail)
 (conv=>whnf)
 refine CE (ι:=Nat) (λi=>[(1,.H .one [I (f)]),(5,.H .one (aD .own (jU t f i))),(10,.H .one (Eh .X t.J)),(11,.H .one [I (t.J.length)]),(12,.H .one [I ((i:Nat):Int)])]) (λi=>i<=t.J.length) (λi=>t.J.length - i) (0) ?_ (U0 _) λi k=>?_
 ·exact wB
 have d:=uM t f i;by_cases e:i<t.J.length
 ·have g:=ao e
  repeat'(first|refine gD ?_|(conv=>whnf);first|with_reducible (first|refine CC (aa g) ?_|refine Bf.D (λb=>?_) (λb=>?_)|refine Bf.N (λb=>?_) (λb=>?_)|refine Bf.E (λb=>?_) (λb=>?_))|refine CT cn (λr h=>by rw[I1.1 h];rfl) (by simp[aY,eg]) (by simp;omega) (by simp only[Z0];exact yI (by simp;omega) (by decide)) rfl ?_)
  all_goals first
   |(have a:Lc t f i=true:=O0 (by grind)
     (conv=>whnf)
     refine CD (i+1) ω ω ?_;rw[AA a]
     (repeat'(first|exact trivial|rfl|exact CK rfl (CK (W0 (C.s dQ.own) (by simp[rI])) trivial)|refine CK ?_ ?_)))
   |(have a:Lc t f i=false:=T0 (by grind)
     (conv=>whnf)
     refine CD (i+1) ω ω ?_;rw[El a]
     (exact wA))
 repeat'(first|refine gD ?_|fail)
 obtain rfl:i=t.J.length:=ω
 rfl
theorem cM(t:aH)(p:Int)(b:aH.sml t):ar Tryz.prog 48 false [.val (some 1) (aH.enc .X t),.val none [I p]] .agg (bi.enc .own (ac t p)):=by
 have d:=b.1;refine fO 18 [] Tryz.func48 rfl ?_ (.inr (bi.enc_fr _));by_cases a:0<=p/\p<t.J.length
 ·have c:=ao (xs:=t.J) (i:=p.toNat) ω
  repeat'(first|refine gD ?_|(conv=>whnf);first|refine C7 (aG _ 0 _) ?_|refine CL a.1 (aa c) ?_)
  all_goals(unfold ac;rw[C9 a];rfl)
 repeat'(first|refine gD ?_|(conv=>whnf);first|refine C7 (aG _ 0 _) ?_)
 all_goals(unfold ac;rw[C8 a];rfl)
theorem dB(t:aH)(p:Int)(b:aH.sml t):ar Tryz.prog 139 false [.val (some 1) (aH.enc .X t),.val none [I p]] .agg (bi.enc .own (ac t p)):=by
 have d:=b.1;refine fO 18 [] Tryz.func139 rfl ?_ (.inr (bi.enc_fr _));by_cases a:0<=p/\p<t.J.length
 ·have c:=ao (xs:=t.J) (i:=p.toNat) ω
  repeat'(first|refine gD ?_|(conv=>whnf);first|refine C7 (aM _ 0 _) ?_|refine CL a.1 (aa c) ?_)
  all_goals(unfold ac;rw[C9 a];rfl)
 repeat'(first|refine gD ?_|(conv=>whnf);first|refine C7 (aM _ 0 _) ?_)
 all_goals(unfold ac;rw[C8 a];rfl)
theorem qV(t:aH)(f:Int):(pagesOn t f).length<=t.J.length:=uM ..
theorem oA(m:aR)(b:aR.sml m):ar Tryz.prog 364 false [.val (some 3) (aR.enc .X m)] .one [B (di m)]:=by
 have q:m.W.a5.length<=1048576:=b.1.2;have l:m.W.S.length<=1048576:=b.1.1.1;have c:=zL m.W b.1;have e:=BP m.Q m.W.S.length b.2;cases a:du m.W with
 | false=>
  rw[a]at c;refine fO 39 [(6,13,[26,27,28,29,30,31,32,33,34,35,36,37,38])] Tryz.func364 rfl ?_
  repeat'(first|refine gO ?_|(conv=>whnf);first|refine C7 c ?_)
  exact W0 (λz=>[B z]) ((by unfold di;rw[a];rfl))
 | true=>
  have g:=Dh a;rw[a]at c;cases d:gw m.Q m.W.a5.length with
  | false=>
   rw[show(m.W.S.length:Int)=m.W.a5.length by omega,d]at e;refine fO 39 [(6,13,[26,27,28,29,30,31,32,33,34,35,36,37,38])] Tryz.func364 rfl ?_
   repeat'(first|refine gO ?_|(conv=>whnf);first|refine C7 c ?_|refine C7 ((show(m.W.S.length:Int)=m.W.a5.length by omega) ▸ e) ?_)
   exact W0 (λz=>[B z]) ((by unfold di;rw[a,d];rfl))
  | true=>
   rw[show(m.W.S.length:Int)=m.W.a5.length by omega,d]at e;refine fO 39 [(6,13,[26,27,28,29,30,31,32,33,34,35,36,37,38])] Tryz.func364 rfl ?_
   repeat'(first|refine gO ?_|(conv=>whnf);first|refine C7 c ?_|refine C7 ((show(m.W.S.length:Int)=m.W.a5.length by omega) ▸ e) ?_)
   (conv=>whnf)
   refine CE (ι:=Nat) (λi=>[(1,.H .box (aR.enc .X m)),(3,.H .one [I ((i:Nat):Int)])]) (λi=>i<=m.W.a5.length/\cY i (oT m)=true) (λi=>m.W.a5.length - i) 0 ?_ ⟨U0 _,rfl⟩ λi h=>?_
   ·exact wB
   obtain⟨h,j⟩:=h;by_cases k:i<m.W.a5.length
   ·have n:=ao k
    have o:=qV m.Q (i:Nat)
    repeat'(first|refine gD ?_|(conv=>whnf);first|with_reducible (first|refine CC (aa n) ?_|refine Bf.NB (λp=>?_) (λp=>?_))|refine C7 (gP m.Q (i:Nat) b.2) ?_)
    all_goals first
     | exact W0 (λz=>[B z]) ((by symm;unfold di;rw[a,d,cA k (by unfold oT;grind)];rfl))
     | ((conv=>whnf);refine CD (i+1) ⟨ω,bS j (by unfold oT;grind)⟩ ω ?_;(exact wB))
   repeat'(first|refine gD ?_|fail)
   obtain rfl:i=m.W.a5.length:=ω
   exact W0 (λz=>[B z]) ((by unfold di;rw[a,d,j];rfl))
theorem o6(m:aR)(d:aR.sml m):ar Tryz.prog 84 false [.val (some 3) (aR.enc .X m)] .one [B (di m)]:=by
 have o:m.W.a5.length<=1048576:=d.1.2;have b:=yS m.W d.1;have e:=Dj m.Q m.W.a5.length d.2;cases a:du m.W with
 | false=>
  rw[a]at b;refine fO 37 [] Tryz.func84 rfl ?_
  repeat'(first|refine gO ?_|(conv=>whnf);first|refine C7 b ?_)
  exact W0 (λz=>[B z]) ((by unfold di;rw[a];rfl))
 | true=>
  rw[a]at b;cases c:gw m.Q m.W.a5.length with
  | false=>
   rw[c]at e;refine fO 37 [] Tryz.func84 rfl ?_
   repeat'(first|refine gO ?_|(conv=>whnf);first|refine C7 b ?_|refine C7 e ?_)
   exact W0 (λz=>[B z]) ((by unfold di;rw[a,c];rfl))
  | true=>
   rw[c]at e;refine fO 37 [] Tryz.func84 rfl ?_
   repeat'(first|refine gO ?_|(conv=>whnf);first|refine C7 b ?_|refine C7 e ?_)
   (conv=>whnf)
   refine CE (ι:=Nat) (λi=>[(1,.H .box (aR.enc .X m)),(21,.H .one (BV .X m.W.a5)),(22,.H .one [I (m.W.a5.length)]),(23,.H .one [I ((i:Nat):Int)])]) (λi=>i<=m.W.a5.length/\cY i (oT m)=true) (λi=>m.W.a5.length - i) 0 ?_ ⟨U0 _,rfl⟩ λi g=>?_
   ·exact wB
   obtain⟨g,h⟩:=g;by_cases j:i<m.W.a5.length
   ·have k:=ao j
    have l:=qV m.Q (i:Nat)
    repeat'(first|refine gD ?_|(conv=>whnf);first|with_reducible (first|refine CC (aa k) ?_|refine Bf.NB (λn=>?_) (λn=>?_))|refine C7 (kM m.Q (i:Nat) d.2) ?_)
    all_goals first
     | exact W0 (λz=>[B z]) ((by symm;unfold di;rw[a,c,cA j (by unfold oT;grind)];rfl))
     | ((conv=>whnf);refine CD (i+1) ⟨ω,bS h (by unfold oT;grind)⟩ ω ?_;(exact wB))
   repeat'(first|refine gD ?_|fail)
   obtain rfl:i=m.W.a5.length:=ω
   exact W0 (λz=>[B z]) ((by unfold di;rw[a,c,h];rfl))
theorem mn(k:af)(d:af.sml k):ar Tryz.prog 223 false [.val (some 5) (af.enc .X k)] .one [B (a7 k)]:=by
 have n:k.a0.length<=1048576:=d.2;have a:=oA k.F d.1;refine fO 31 [] Tryz.func223 rfl ?_
 repeat'(first|refine gO ?_|fail)
 (conv=>whnf)
 refine CE (ι:=Nat) (λi=>[(1,.H .box (af.enc .X k)),(3,.H .one [I ((i:Nat):Int)])]) (λi=>i<=k.a0.length/\cY i (λj=>decide (0<=nth k.a0 j))=true) (λi=>k.a0.length - i) 0 ?_ ⟨U0 _,rfl⟩ λi e=>?_
 ·exact wB
 obtain⟨e,g⟩:=e;by_cases h:i<k.a0.length
 ·have l:=ao h
  repeat'(first|refine gD ?_|(conv=>whnf);first|with_reducible (first|refine CC (aa l) ?_|refine Bf.D (λc=>?_) (λc=>?_)))
  all_goals first
   | exact W0 (λz=>[B z]) ((by symm;unfold a7;rw[cA h (T0 ω)];rfl))
   | ((conv=>whnf);refine CD (i+1) ⟨ω,bS g (O0 ω)⟩ ω ?_;(exact wB))
 obtain rfl:i=k.a0.length:=ω
 cases b:di k.F with
 | false=>
  rw[b]at a
  repeat'(first|refine gD ?_|(conv=>whnf);first|refine C7 a ?_)
  all_goals exact W0 (λz=>[B z]) ((by unfold a7;rw[b];simp))
 | true=>
  rw[b]at a
  repeat'(first|refine gD ?_|(conv=>whnf);first|with_reducible refine Bf.D (λc=>?_) (λc=>?_)|refine C7 a ?_|refine C7 (aG _ 0 100000) ?_)
  all_goals exact W0 (λz=>[B z]) ((by unfold a7;rw[b,g];simp only[Bool.true_and];first|exact decide_eq_decide.2 ω|(symm;exact T0 ω)|(symm;exact O0 ω)))
theorem qG(k:af)(b:af.sml k):ar Tryz.prog 27 false [.val (some 5) (af.enc .X k)] .one [B (a7 k)]:=by
 have l:k.a0.length<=1048576:=b.2;have g:=o6 k.F b.1;refine fO 29 [] Tryz.func27 rfl ?_
 repeat'(first|refine gO ?_|fail)
 (conv=>whnf)
 refine CE (ι:=Nat) (λi=>[(1,.H .box (af.enc .X k)),(6,.H .one (aD .X k.a0)),(7,.H .one [I (k.a0.length)]),(8,.H .one [I ((i:Nat):Int)])]) (λi=>i<=k.a0.length/\cY i (λj=>decide (0<=nth k.a0 j))=true) (λi=>k.a0.length - i) 0 ?_ ⟨U0 _,rfl⟩ λi c=>?_
 ·exact wB
 obtain⟨c,d⟩:=c;by_cases e:i<k.a0.length
 ·have h:=ao e
  repeat'(first|refine gD ?_|(conv=>whnf);first|with_reducible (first|refine CC (aa h) ?_|refine Bf.D (λa=>?_) (λa=>?_)))
  all_goals first
   | exact W0 (λz=>[B z]) ((by symm;unfold a7;rw[cA e (T0 ω)];rfl))
   | ((conv=>whnf);refine CD (i+1) ⟨ω,bS d (O0 ω)⟩ ω ?_;(exact wB))
 obtain rfl:i=k.a0.length:=ω
 repeat'(first|refine gD ?_|(conv=>whnf);first|with_reducible refine Bf.D (λa=>?_) (λa=>?_)|refine C7 g ?_|refine C7 (aM _ 0 100000) ?_)
 all_goals exact W0 (λz=>[B z]) ((by unfold a7;rw[d];cases di k.F<;>simp only[Bool.true_and,Bool.false_and]<;>first|rfl|exact decide_eq_decide.2 ω|(symm;exact T0 ω)|(symm;exact O0 ω)))
theorem xT(pages:Int)(r:aA)(b:0<=pages/\pages<=1048576):ar Tryz.prog 365 false [.val none [I pages],.val (some 2) (aA.enc .X r)] .one [B (rangeIn pages r)]:=by
 refine fO 18 [] Tryz.func365 rfl ?_
 repeat'(first|refine gO ?_|(conv=>whnf);first|with_reducible refine Bf.D (λa=>?_) (λa=>?_)|refine C7 (aG _ 1 _) ?_|refine C7 (aG _ 0 _) ?_)
 all_goals exact W0 (λz=>[B z]) ((by unfold rangeIn;first|(symm;exact T0 ω)|exact decide_eq_decide.2 ω))
theorem Gi(pages:Int)(r:aA)(b:0<=pages/\pages<=1048576):ar Tryz.prog 238 false [.val none [I pages],.val (some 2) (aA.enc .X r)] .one [B (rangeIn pages r)]:=by
 refine fO 18 [] Tryz.func238 rfl ?_
 repeat'(first|refine gO ?_|(conv=>whnf);first|with_reducible refine Bf.D (λa=>?_) (λa=>?_)|refine C7 (aM _ 1 _) ?_|refine C7 (aM _ 0 _) ?_)
 all_goals exact W0 (λz=>[B z]) ((by unfold rangeIn;first|(symm;exact T0 ω)|exact decide_eq_decide.2 ω))
theorem nv(k:Int):ar Tryz.prog 475 false [.val none [I k]] .one [I (slots k)]:=by
 by_cases b:0<=k/\k<=3
 ·obtain rfl|rfl|rfl|rfl:k=0\/k=1\/k=2\/k=3:=ω
  all_goals
   refine fO 9 [] Tryz.func475 rfl ?_
   repeat'(first|refine gD ?_|(conv=>whnf);first|with_reducible refine Bf.D (λa=>?_) (λa=>?_)|refine C7 (aG _ 0 3) ?_|refine CN (by decide) ?_|refine CM rfl ?_|refine CQ rfl ?_)
   exact W0 (λz=>[I z]) (by decide)
 refine fO 9 [] Tryz.func475 rfl ?_
 repeat'(first|refine gD ?_|(conv=>whnf);first|with_reducible refine Bf.D (λa=>?_) (λa=>?_)|refine C7 (aG _ 0 3) ?_)
 exact W0 (λz=>[I z]) (by unfold slots;rw[C8 ω,C8 ω,C8 ω,C8 ω])
theorem jj(k:Int):ar Tryz.prog 349 false [.val none [I k]] .one [I (slots k)]:=by
 by_cases b:0<=k/\k<=3
 ·obtain rfl|rfl|rfl|rfl:k=0\/k=1\/k=2\/k=3:=ω
  all_goals
   refine fO 9 [] Tryz.func349 rfl ?_
   repeat'(first|refine gD ?_|(conv=>whnf);first|with_reducible refine Bf.D (λa=>?_) (λa=>?_)|refine C7 (gc _) ?_|refine C7 (ef _) ?_|refine CN (by decide) ?_|refine CM rfl ?_|refine CQ rfl ?_)
   exact W0 (λz=>[I z]) (by decide)
 refine fO 9 [] Tryz.func349 rfl ?_
 repeat'(first|refine gD ?_|(conv=>whnf);first|with_reducible refine Bf.D (λa=>?_) (λa=>?_)|refine C7 (gc _) ?_)
 exact W0 (λz=>[I z]) (by unfold slots;rw[C8 ω,C8 ω,C8 ω,C8 ω])
def MQ(k b:Int):Bool:=decide (0<=k/\k<=3/\0<=b/\b<=lim k)
theorem qy(k b:Int):ar Tryz.prog 474 false [.val none [I (slots k)],.val none [I b]] .one [B (MQ k b)]:=by
 by_cases d:0<=k/\k<=3
 ·obtain rfl|rfl|rfl|rfl:k=0\/k=1\/k=2\/k=3:=ω
  all_goals
   first|rw[show slots 0=16 from rfl]|rw[show slots 1=8 from rfl]|rw[show slots 2=4 from rfl]|rw[show slots 3=2 from rfl]
   refine fO 15 [] Tryz.func474 rfl ?_
   repeat'(first|refine gD ?_|(conv=>whnf);first|with_reducible refine Bf.D (λa=>?_) (λa=>?_)|refine C7 (aG _ 1 16) ?_|refine C7 (aG _ 0 _) ?_|refine CN (by decide) ?_|refine CM (show _=(65536:Int) by decide) ?_|refine CM (show _=(65535:Int) by decide) ?_|refine CM (show _=(256:Int) by decide) ?_|refine CM (show _=(255:Int) by decide) ?_|refine CM (show _=(16:Int) by decide) ?_|refine CM (show _=(15:Int) by decide) ?_|refine CM (show _=(4:Int) by decide) ?_|refine CM (show _=(8:Int) by decide) ?_|refine CM (show _=(2:Int) by decide) ?_|refine CM (show _=(3:Int) by decide) ?_)
   all_goals exact W0 (λz=>[B z]) ((decide_eq_decide.2 (by simp[lim])))
 have c:slots k=0:=by unfold slots;rw[C8 ω,C8 ω,C8 ω,C8 ω]
 rw[c];refine fO 15 [] Tryz.func474 rfl ?_
 repeat'(first|refine gD ?_|(conv=>whnf);first|with_reducible refine Bf.D (λa=>?_) (λa=>?_)|refine C7 (aG _ 1 16) ?_)
 exact W0 (λz=>[B z]) ((by symm;exact T0 ω))
theorem zM(k b:Int):ar Tryz.prog 389 false [.val none [I (slots k)],.val none [I b]] .one [B (MQ k b)]:=by
 by_cases d:0<=k/\k<=3
 ·obtain rfl|rfl|rfl|rfl:k=0\/k=1\/k=2\/k=3:=ω
  all_goals
   first|rw[show slots 0=16 from rfl]|rw[show slots 1=8 from rfl]|rw[show slots 2=4 from rfl]|rw[show slots 3=2 from rfl]
   refine fO 14 [] Tryz.func389 rfl ?_
   repeat'(first|refine gD ?_|(conv=>whnf);first|with_reducible refine Bf.D (λa=>?_) (λa=>?_)|refine C7 (aM _ 1 16) ?_|refine C7 (aM _ 0 _) ?_|refine CN (by decide) ?_|refine CM (eN (by decide) (by decide)) ?_)
   all_goals exact W0 (λz=>[B z]) ((decide_eq_decide.2 (by simp[lim,IntKind.bits])))
 have c:slots k=0:=by unfold slots;rw[C8 ω,C8 ω,C8 ω,C8 ω]
 rw[c];refine fO 14 [] Tryz.func389 rfl ?_
 repeat'(first|refine gD ?_|(conv=>whnf);first|with_reducible refine Bf.D (λa=>?_) (λa=>?_)|refine C7 (aM _ 1 16) ?_)
 exact W0 (λz=>[B z]) ((by symm;exact T0 ω))
theorem gK(s:ax):ar Tryz.prog 366 false [.val (some 3) (ax.enc .X s)] .one [B (bf s)]:=by
 refine fO 14 [(1,12,[3,4,5,6,7,8,9,10,11,12,13,2])] Tryz.func366 rfl ?_
 repeat'(first|refine gO ?_|(conv=>whnf);first|with_reducible refine Bf.D (λa=>?_) (λa=>?_)|refine C7 (aG _ 0 31) ?_|refine C7 (nv _) ?_|refine C7 (qy _ _) ?_)
 all_goals exact W0 (λz=>[B z]) ((by unfold bf;first|(symm;exact T0 ω)|exact decide_eq_decide.2 ω))
theorem iI(s:ax):ar Tryz.prog 240 false [.val (some 3) (ax.enc .X s)] .one [B (bf s)]:=by
 refine fO 19 [(1,17,[3,4,5,6,7,8,9,10,11,12,13,14,15,16,17,18,2])] Tryz.func240 rfl ?_
 repeat'(first|refine gO ?_|(conv=>whnf);first|with_reducible refine Bf.D (λa=>?_) (λa=>?_)|refine C7 (aM _ 0 31) ?_|refine C7 (gc _) ?_|refine C7 (jj _) ?_|refine C7 (zM _ _) ?_)
 all_goals exact W0 (λz=>[B z]) ((by unfold bf;first|(symm;exact T0 ω)|exact decide_eq_decide.2 ω))
section
variable{α:Type}{xs:List α}{p:α->Bool}{i:Nat}{y:α}
theorem Db(h:xs[i]? = some y)(a:p y=true):xs.any p=true:=Y3.2 ⟨y,W1 h,a⟩
theorem x5(h:xs[i]? = some y)(a:(xs.take i).any p=false)(b:p y=false):(xs.take (i+1)).any p=false:=by
 rw[I5,h,List.any_append,a];simp[b]
theorem Jn(a:xs.length<=i)(b:(xs.take i).any p=false):xs.any p=false:=by
 rwa [W6 a]at b
theorem gy[Inhabited α](a:0<i)(b:i<xs.length):xs[((i:Int) - 1).toNat]? = some (nth xs (i - 1)):=by
 rw[show((i:Int) - 1).toNat=i - 1 by omega];exact ao ω
end
theorem wX{pages:Int}{xs:List aA}{i n:Nat}(a:cY n (gx pages xs)=true)(b:i<n):1<=(nth xs i).b1/\(nth xs i).b1<=pages/\0<=(nth xs i).At/\(nth xs i).At<=pages - (nth xs i).b1:=by
 have:=dS a b;unfold gx rangeIn at this;simp only[I0,C0]at this;exact this.1
theorem mh(pages:Int)(xs:List aA)(e:0<=pages/\pages<=1048576)(k:iC xs):ar Tryz.prog 224 false [.val none [I pages],.val none (bM .X xs)] .one [B (bC pages xs)]:=by
 have n:=k.1;refine fO 46 [(4,32,[12,13,14,15,16,17,18,19,20,21,22,23,24,25,26,27,28,29,30,31,32,33,34,35,36,37,38,39,40,41,42,43])] Tryz.func224 rfl ?_
 repeat'(first|refine gO ?_|fail)
 (conv=>whnf)
 refine CE (ι:=Nat) (λi=>[(0,.H .one [I (pages)]),(1,.H .one (bM .X xs)),(5,.H .one [I ((i:Nat):Int)])]) (λi=>i<=xs.length/\cY i (gx pages xs)=true) (λi=>xs.length - i) 0 ?_ ⟨U0 _,rfl⟩ λi g=>?_
 ·exact wB
 obtain⟨g,d⟩:=g;by_cases c:i<xs.length
 ·have j:=ao c
  have o:0<i->1<=(nth xs (i - 1)).b1/\(nth xs (i - 1)).b1<=pages/\0<=(nth xs (i - 1)).At/\(nth xs (i - 1)).At<=pages - (nth xs (i - 1)).b1:=λh=>wX d ω
  cases a:rangeIn pages (nth xs i) with
  | false=>
   have b:=xT pages (nth xs i) e;rw[a]at b
   repeat'(first|refine gD ?_|(conv=>whnf);first|with_reducible refine CC (aa j) ?_|refine C7 b ?_)
   exact W0 (λz=>[B z]) ((by symm;unfold bC;rw[cA c (by unfold gx;rw[a];rfl)];rfl))
  | true=>
   have b:=xT pages (nth xs i) e;rw[a]at b
   repeat'(first|refine gD ?_|(conv=>whnf);first|with_reducible (first|refine CC (aa j) ?_|refine Bf.D (λl=>?_) (λl=>?_))|refine C7 b ?_|refine CL ω (aa (gy ω c)) ?_)
   all_goals first
    | exact W0 (λz=>[B z]) ((by symm;unfold bC;rw[cA c (by unfold gx;rw[a,T0 ω];rfl)];rfl))
    | ((conv=>whnf);refine CD (i+1) ⟨ω,bS d (by unfold gx;rw[a,O0 ω];rfl)⟩ ω ?_;(exact wB))
 repeat'(first|refine gD ?_|(conv=>whnf);first|refine C7 (aG pages 1 32) ?_)
 obtain rfl:i=xs.length:=ω
 exact W0 (λz=>[B z]) ((by unfold bC;rw[d];rfl))
theorem yJ(pages:Int)(xs:List aA)(j:0<=pages/\pages<=1048576)(k:iC xs):ar Tryz.prog 72 false [.val none [I pages],.val none (bM .X xs)] .one [B (bC pages xs)]:=by
 have n:=k.1;refine fO 43 [(4,26,[14,15,16,17,18,19,20,21,22,23,24,25,26,27,28,29,30,31,32,33,34,35,36,37,38,39])] Tryz.func72 rfl ?_
 repeat'(first|refine gO ?_|fail)
 (conv=>whnf)
 refine CE (ι:=Nat) (λi=>[(0,.H .one [I (pages)]),(1,.H .one (bM .X xs)),(7,.H .one (bM .X xs)),(8,.H .one [I (xs.length)]),(9,.H .one [I ((i:Nat):Int)])]) (λi=>i<=xs.length/\cY i (gx pages xs)=true) (λi=>xs.length - i) 0 ?_ ⟨U0 _,rfl⟩ λi e=>?_
 ·exact wB
 obtain⟨e,d⟩:=e;by_cases b:i<xs.length
 ·have g:=ao b
  have o:0<i->1<=(nth xs (i - 1)).b1/\(nth xs (i - 1)).b1<=pages/\0<=(nth xs (i - 1)).At/\(nth xs (i - 1)).At<=pages - (nth xs (i - 1)).b1:=λh=>wX d ω
  have c:=Gi pages (nth xs i) j;cases a:rangeIn pages (nth xs i) with
  | false=>
   rw[a]at c
   repeat'(first|refine gD ?_|(conv=>whnf);first|with_reducible refine CC (aa g) ?_|refine C7 c ?_)
   exact W0 (λz=>[B z]) ((by symm;unfold bC;rw[cA b (by unfold gx;rw[a];rfl)];rfl))
  | true=>
   rw[a]at c
   repeat'(first|refine gD ?_|(conv=>whnf);first|with_reducible (first|refine CC (aa g) ?_|refine Bf.D (λl=>?_) (λl=>?_))|refine C7 c ?_|refine CL ω (aa (gy ω b)) ?_)
   all_goals first
    | exact W0 (λz=>[B z]) ((by symm;unfold bC;rw[cA b (by unfold gx;rw[a,T0 ω];rfl)];rfl))
    | ((conv=>whnf);refine CD (i+1) ⟨ω,bS d (by unfold gx;rw[a,O0 ω];rfl)⟩ ω ?_;(exact wB))
 repeat'(first|refine gD ?_|(conv=>whnf);first|refine C7 (aM pages 1 32) ?_)
 obtain rfl:i=xs.length:=ω
 exact W0 (λz=>[B z]) ((by unfold bC;rw[d];rfl))
theorem yX(xs:List aA)(page:Int)(g:xs.length<=9223372036854775807):ar Tryz.prog 370 false [.val none (bM .X xs),.val none [I page]] .one [B (xs.any (rj page))]:=by
 refine fO 34 [(4,22,[12,13,14,15,16,17,18,19,20,21,22,23,24,25,26,27,28,29,30,31,32,33])] Tryz.func370 rfl ?_
 repeat'(first|refine gO ?_|fail)
 (conv=>whnf)
 refine CE (ι:=Nat) (λi=>[(0,.H .one (bM .X xs)),(1,.H .one [I (page)]),(5,.H .one [I ((i:Nat):Int)])]) (λi=>i<=xs.length/\(xs.take i).any (rj page)=false) (λi=>xs.length - i) (0) ?_ (⟨U0 _,rfl⟩) λi b=>?_
 ·exact wB
 obtain⟨b,c⟩:=b;by_cases d:i<xs.length
 ·have a:=ao d
  repeat'(first|refine gD ?_|(conv=>whnf);first|with_reducible (first|refine CC (aa a) ?_|refine Bf.D (λe=>?_) (λe=>?_))|refine CM rfl ?_)
  all_goals first
   | exact W0 (λz=>[B z]) ((Db a (by unfold rj;rw[O0 (by assumption),O0 (by assumption)];rfl)).symm)
   | ((conv=>whnf);refine CD (i+1) ⟨ω,x5 a c (by unfold rj;first|(rw[T0 (by assumption:¬(nth xs i).At<=page)];rfl)|(rw[T0 (by assumption:¬page<_)];simp))⟩ ω ?_;(exact wB))
 repeat'(first|refine gD ?_|fail)
 exact W0 (λz=>[B z]) ((Jn ω c).symm)
theorem tdiv16{z:Int}(h:0<=z):z.tdiv 16=z / 16:=Int.tdiv_eq_ediv_of_nonneg h
theorem mc(z:Int):ar Tryz.prog 384 false [.val none [I z]] .one [I (fL z)]:=by
 refine fO 10 [] Tryz.func384 rfl ?_;by_cases b:9<=z/\z<=1000
 ·repeat'(first|refine gD ?_|(conv=>whnf);first|with_reducible refine Bf.D (λa=>?_) (λa=>?_)|refine C7 (aG z 9 1000) ?_|refine CN (by decide) ?_|refine CM ((W0 _ (tdiv16 ω)).trans (eN ω ω)) ?_)
  all_goals exact W0 (λz=>[I z]) (by unfold fL;rw[C9 b];omega)
 repeat'(first|refine gD ?_|(conv=>whnf);first|with_reducible refine Bf.D (λa=>?_) (λa=>?_)|refine C7 (aG z 9 1000) ?_)
 all_goals exact W0 (λz=>[I z]) (by unfold fL;rw[C8 b])
theorem z6(z:Int):ar Tryz.prog 206 false [.val none [I z]] .one [I (fL z)]:=by
 refine fO 10 [] Tryz.func206 rfl ?_;by_cases b:9<=z/\z<=1000
 ·repeat'(first|refine gD ?_|(conv=>whnf);first|with_reducible refine Bf.D (λa=>?_) (λa=>?_)|refine C7 (aM z 9 1000) ?_|refine CN (by decide) ?_|refine CM ((W0 _ (tdiv16 ω)).trans (eN ω ω)) ?_)
  all_goals exact W0 (λz=>[I z]) (by unfold fL;rw[C9 b];omega)
 repeat'(first|refine gD ?_|(conv=>whnf);first|with_reducible refine Bf.D (λa=>?_) (λa=>?_)|refine C7 (aM z 9 1000) ?_)
 all_goals exact W0 (λz=>[I z]) (by unfold fL;rw[C8 b])
theorem nG(l:a8):ar Tryz.prog 368 false [.val (some 3) (a8.enc .X l)] .one [B (bJ l)]:=by
 have b:=mc l.q;by_cases c:9<=l.q/\l.q<=1000
 ·rw[show fL l.q=(l.q+15) / 16 from C9 c]at b
  refine fO 22 [] Tryz.func368 rfl ?_
  repeat'(first|refine gO ?_|(conv=>whnf);first|with_reducible (first|refine Bf.D (λa=>?_) (λa=>?_)|refine Bf.E (λa=>?_) (λa=>?_))|refine C7 b ?_|refine C7 (aG _ 0 _) ?_)
  all_goals exact W0 (λz=>[B z]) ((by unfold bJ;first|(symm;exact T0 ω)|exact decide_eq_decide.2 ω))
 rw[show fL l.q=0 from C8 c]at b;refine fO 22 [] Tryz.func368 rfl ?_
 repeat'(first|refine gD ?_|(conv=>whnf);first|with_reducible refine Bf.D (λa=>?_) (λa=>?_)|refine C7 b ?_)
 all_goals exact W0 (λz=>[B z]) ((by unfold bJ;symm;exact T0 ω))
theorem rV(l:a8):ar Tryz.prog 241 false [.val (some 3) (a8.enc .X l)] .one [B (bJ l)]:=by
 have b:=z6 l.q;by_cases c:9<=l.q/\l.q<=1000
 ·rw[show fL l.q=(l.q+15) / 16 from C9 c]at b
  refine fO 22 [(1,20,[3,4,5,6,7,8,9,10,11,12,13,14,15,16,17,18,19,20,21,2])] Tryz.func241 rfl ?_
  repeat'(first|refine gD ?_|(conv=>whnf);first|with_reducible (first|refine Bf.D (λa=>?_) (λa=>?_)|refine Bf.E (λa=>?_) (λa=>?_))|refine C7 b ?_|refine C7 (aM _ 9 1000) ?_|refine C7 (aM _ 0 _) ?_)
  all_goals exact W0 (λz=>[B z]) ((by unfold bJ;first|(symm;exact T0 ω)|exact decide_eq_decide.2 ω))
 refine fO 22 [(1,20,[3,4,5,6,7,8,9,10,11,12,13,14,15,16,17,18,19,20,21,2])] Tryz.func241 rfl ?_
 repeat'(first|refine gD ?_|(conv=>whnf);first|with_reducible refine Bf.D (λa=>?_) (λa=>?_)|refine C7 (aM _ 9 1000) ?_)
 all_goals exact W0 (λz=>[B z]) ((by unfold bJ;symm;exact T0 ω))
theorem nh{z:Int}(h:0<=z/\z<=9223372036854775807):(BitVec.ofInt IntKind.i64.bits z).toNat=z.toNat:=by
 show(BitVec.ofInt 64 z).toNat=z.toNat;rw[BitVec.toNat_ofInt]
 congr 1
 exact Int.emod_eq_of_lt h.1 (by show z<((2 ^ 64:Nat):Int);have:=h.2;norm_cast;omega)
theorem and64{z1 z2:Int}(h1:0<=z1/\z1<=9223372036854775807)(a:0<=z2/\z2<=9223372036854775807):IntKind.i64.wrap ((BitVec.ofInt IntKind.i64.bits z1 &&& BitVec.ofInt IntKind.i64.bits z2).toNat:Nat)=((z1.toNat &&& z2.toNat:Nat):Int):=by
 rw[BitVec.toNat_and,nh h1,nh a];have:z1.toNat &&& z2.toNat<=z1.toNat:=Nat.and_le_left;exact eN ω ω
theorem GB(k:Int):lim k<=65535:=by
 unfold lim
 (repeat' split)<;>decide
theorem fx{s:ax}(h:bf s=true):0<=s.b2/\s.b2<=9223372036854775807:=by
 unfold bf at h;simp only[C0]at h;have:=GB s.d;omega
theorem mz(b c:ax):ar Tryz.prog 371 false [.val (some 3) (ax.enc .X b),.val (some 3) (ax.enc .X c)] .one [B (meshable b c)]:=by
 have g:=gK b;have h:=gK c;cases d:bf b<;>rw[d]at g<;>cases e:bf c<;>rw[e]at h
 all_goals
  refine fO 33 [] Tryz.func371 rfl ?_
  repeat'(first|refine gO ?_|(conv=>whnf);first|with_reducible (first|refine Bf.D (λa=>?_) (λa=>?_)|refine Bf.N (λa=>?_) (λa=>?_)|refine Bf.E (λa=>?_) (λa=>?_))|refine C7 g ?_|refine C7 h ?_|refine CM (and64 (fx d) (fx e)) ?_)
  all_goals exact W0 (λz=>[B z]) ((by unfold meshable;rw[d,e];first|rfl|(symm;exact T0 ω)|(rw[V4];simp;omega)))
theorem mg(b c:ax):ar Tryz.prog 244 false [.val (some 3) (ax.enc .X b),.val (some 3) (ax.enc .X c)] .one [B (meshable b c)]:=by
 have g:=iI b;have h:=iI c;cases d:bf b<;>rw[d]at g<;>cases e:bf c<;>rw[e]at h
 all_goals
  refine fO 33 [] Tryz.func244 rfl ?_
  repeat'(first|refine gO ?_|(conv=>whnf);first|with_reducible (first|refine Bf.D (λa=>?_) (λa=>?_)|refine Bf.N (λa=>?_) (λa=>?_)|refine Bf.E (λa=>?_) (λa=>?_))|refine C7 g ?_|refine C7 h ?_|refine CM (and64 (fx d) (fx e)) ?_)
  all_goals exact W0 (λz=>[B z]) ((by unfold meshable;rw[d,e];first|rfl|(symm;exact T0 ω)|(rw[V4];simp;omega)))
theorem AF(k:Int):ar Tryz.prog 394 false [.val none [I k]] .one [B (decide (0<=k/\k<=15))]:=by
 refine fO 5 [] Tryz.func394 rfl ?_
 repeat'(first|refine gO ?_|(conv=>whnf);first|refine C7 (aM k 0 15) ?_)
 rfl
theorem uU(p:bY)(e:bY.sml p):ar Tryz.prog 379 false [.val (some 3) (bY.enc .X p)] .one [B (eK p)]:=by
 have h:p.S.length<=1048576:=e;refine fO 51 [(4,25,[11,12,13,14,15,16,17,18,19,20,21,22,23,24,25,26,27,28,29,30,31,32,33,34,35])] Tryz.func379 rfl ?_
 repeat'(first|refine gO ?_|fail)
 (conv=>whnf)
 refine CE (ι:=Nat) (λi=>[(1,.H .box (bY.enc .X p)),(3,.H .one [I ((i:Nat):Int)])]) (λi=>i<=p.S.length/\cY i (mu p.S)=true) (λi=>p.S.length - i) 0 ?_ ⟨U0 _,rfl⟩ λi c=>?_
 ·exact wB
 obtain⟨c,d⟩:=c;by_cases b:i<p.S.length
 ·have g:=ao b
  repeat'(first|refine gD ?_|(conv=>whnf);first|with_reducible (first|refine CC (aa g) ?_|refine Bf.D (λa=>?_) (λa=>?_))|refine C7 (aG _ 0 15) ?_|refine CL ω (aa (gy ω b)) ?_)
  all_goals first
   | exact W0 (λz=>[B z]) ((by symm;unfold eK;rw[cA b (T0 ω)];rfl))
   | ((conv=>whnf);refine CD (i+1) ⟨ω,bS d (O0 ω)⟩ ω ?_;(exact wB))
 obtain rfl:i=p.S.length:=ω
 repeat'(first|refine gD ?_|(conv=>whnf);first|with_reducible (first|refine Bf.D (λa=>?_) (λa=>?_)|refine Bf.NB (λa=>?_) (λa=>?_)|refine Bf.N (λa=>?_) (λa=>?_))|refine C7 (aG _ 0 31) ?_)
 all_goals exact W0 (λz=>[B z]) ((by unfold eK;rw[d];simp only[Bool.true_and];first|(symm;exact T0 ω)|exact decide_eq_decide.2 ω|(rw[V4];simp;omega)))
theorem v8(p:bY)(e:bY.sml p):ar Tryz.prog 251 false [.val (some 3) (bY.enc .X p)] .one [B (eK p)]:=by
 have h:p.S.length<=1048576:=e;refine fO 46 [] Tryz.func251 rfl ?_
 repeat'(first|refine gO ?_|fail)
 (conv=>whnf)
 refine CE (ι:=Nat) (λi=>[(1,.H .box (bY.enc .X p)),(6,.H .one (aD .X p.S)),(7,.H .one [I (p.S.length)]),(8,.H .one [I ((i:Nat):Int)])]) (λi=>i<=p.S.length/\cY i (mu p.S)=true) (λi=>p.S.length - i) 0 ?_ ⟨U0 _,rfl⟩ λi c=>?_
 ·exact wB
 obtain⟨c,d⟩:=c;by_cases b:i<p.S.length
 ·have g:=ao b
  repeat'(first|refine gD ?_|(conv=>whnf);first|with_reducible (first|refine CC (aa g) ?_|refine Bf.D (λa=>?_) (λa=>?_))|refine C7 (AF _) ?_|refine CL ω (aa (gy ω b)) ?_)
  all_goals first
   | exact W0 (λz=>[B z]) ((by symm;unfold eK;rw[cA b (T0 ω)];rfl))
   | ((conv=>whnf);refine CD (i+1) ⟨ω,bS d (O0 ω)⟩ ω ?_;(exact wB))
 obtain rfl:i=p.S.length:=ω
 repeat'(first|refine gD ?_|(conv=>whnf);first|with_reducible (first|refine Bf.D (λa=>?_) (λa=>?_)|refine Bf.NB (λa=>?_) (λa=>?_)|refine Bf.N (λa=>?_) (λa=>?_))|refine C7 (aM _ 0 31) ?_)
 all_goals exact W0 (λz=>[B z]) ((by unfold eK;rw[d];simp only[Bool.true_and];first|(symm;exact T0 ω)|exact decide_eq_decide.2 ω|(rw[V4];simp;omega)))
theorem wH(j:cg)(a:cg.sml j):ar Tryz.prog 233 false [.val (some 5) (cg.enc .X j)] .one [B (ju j)]:=by
 have e:j.V.S.length<=1048576:=a;have b:=uU j.V a;cases c:eK j.V<;>rw[c]at b
 all_goals
  refine fO 20 [] Tryz.func233 rfl ?_
  repeat'(first|refine gO ?_|(conv=>whnf);first|with_reducible refine Bf.D (λd=>?_) (λd=>?_)|refine C7 b ?_|refine C7 (aG _ 0 5) ?_|refine C7 (aG _ 0 _) ?_)
  all_goals exact W0 (λz=>[B z]) ((by unfold ju;rw[c];first|rfl|(symm;exact T0 ω)|(rw[V4];simp;omega)))
theorem xx(j:cg)(a:cg.sml j):ar Tryz.prog 81 false [.val (some 5) (cg.enc .X j)] .one [B (ju j)]:=by
 have e:j.V.S.length<=1048576:=a;have b:=v8 j.V a;cases c:eK j.V<;>rw[c]at b
 all_goals
  refine fO 20 [] Tryz.func81 rfl ?_
  repeat'(first|refine gO ?_|(conv=>whnf);first|with_reducible refine Bf.D (λd=>?_) (λd=>?_)|refine C7 b ?_|refine C7 (aM _ 0 5) ?_|refine C7 (aM _ 0 _) ?_)
  all_goals exact W0 (λz=>[B z]) ((by unfold ju;rw[c];first|rfl|(symm;exact T0 ω)|(rw[V4];simp;omega)))
theorem kR(l:a8)(k:Nat):lpgs l (k+1)=lpgs l k++[l.R+(k:Nat)]:=by
 unfold lpgs;rw[List.range_succ,T5];rfl
theorem FM(l:a8)(k:Nat):(lpgs l k).length=k:=by unfold lpgs;simp
theorem Mi(l:a8){k n:Nat}(h:k<=n):lpgs l k <+: lpgs l n:=by
 induction n with
 | zero=>
  obtain rfl:k=0:=ω
  exact List.prefix_refl _
 | succ n b=>
  rcases Nat.lt_or_ge n k with a|a
  ·obtain rfl:k=n+1:=ω
   exact List.prefix_refl _
  rw[kR];exact(b a).trans (List.prefix_append ..)
theorem o7(sp:List ax){la:List a8}{i:Nat}{l:a8}(h:la[i]? = some l):pgs sp (la.take (i+1))=pgs sp (la.take i)++lpgs l l.a3.toNat:=by
 unfold pgs;rw[I5,h,List.flatMap_append];simp
theorem PM(sp:List ax)(la:List a8)(i:Nat):pgs sp (la.take i) <+: pgs sp la:=by
 unfold pgs;refine(List.prefix_append_right_inj _).2 ?_
 conv=>rhs;rw[<-List.take_append_drop i la,List.flatMap_append]
 exact List.prefix_append ..
theorem Nw{S all:List Int}{p:Int}(h:(S++[p]) <+: all)(b:p∈S):decide all.Nodup=false:=by
 refine T0 λc=>?_
 have a:=c.sublist h.sublist;rw[List.nodup_append]at a;exact a.2.2 p b p (by simp) rfl
theorem ly{S:List Int}{p:Int}(h:S.Nodup)(b:p∉S):(S++[p]).Nodup:=by
 rw[List.nodup_append];exact⟨h,by simp,λx c y a e=>by simp at a;subst a;subst e;exact b c⟩
theorem E9{sp:List ax}{la:List a8}{i:Nat}{s:ax}(h:sp[i]? = some s):((sp.take i).map (·.R)++[s.R]) <+: pgs sp la:=by
 have a:(sp.take i).map (·.R)++[s.R]=(sp.take (i+1)).map (·.R):=by rw[I5,h];simp
 rw[a];refine List.IsPrefix.trans ?_ (List.prefix_append ..);rw[v4];exact List.take_prefix ..
theorem AG{sp:List ax}{la:List a8}{i k:Nat}{l:a8}(h:la[i]? = some l)(a:k<l.a3.toNat):(pgs sp (la.take i)++lpgs l k++[l.R+(k:Nat)]) <+: pgs sp la:=by
 refine List.IsPrefix.trans ?_ (PM sp la (i+1));rw[o7 sp h,O5,<-kR];exact(List.prefix_append_right_inj _).2 (Mi l a)
theorem qF{sp:List ax}{la:List a8}{i:Nat}{s:ax}(h:sp[i]? = some s)(a:bf s=false):bn sp la=false:=by
 unfold bn;rw[fg h a];rfl
theorem po{sp:List ax}{la:List a8}{i:Nat}{l:a8}(h:la[i]? = some l)(a:bJ l=false):bn sp la=false:=by
 unfold bn;rw[fg h a];simp
theorem kD{sp:List ax}{la:List a8}{S:List Int}{p:Int}(h:(S++[p]) <+: pgs sp la)(a:p∈S):bn sp la=false:=by
 unfold bn;rw[Nw h a];simp
theorem tf{sp:List ax}{la:List a8}(h1:sp.all bf=true)(a:la.all bJ=true)(b:(pgs sp la).Nodup):bn sp la=true:=by
 unfold bn;rw[h1,a,O0 b];rfl
theorem aP{l:a8}(h:bJ l=true):1<=l.a3/\l.a3<=63/\0<=l.R/\l.R<=31:=by
 unfold bJ at h;simp only[C0]at h;omega
theorem me(sp:List ax)(la:List a8)(t:dN sp)(u:dM la):ar Tryz.prog 225 false [.val none (bX .X sp),.val none (cy .X la)] .one [B (bn sp la)]:=by
 have J:=t.1;have K:=u.1;refine fO 79 [] Tryz.func225 rfl ?_
 repeat'(first|refine gO ?_|fail)
 (conv=>whnf)
 refine CE (ι:=Nat × List Int) (λi=>[(0,.H .one (bX .X sp)),(1,.H .one (cy .X la)),(5,.H .one (aD .own i.2)),(6,.H .one [I ((i.1:Nat):Int)])]) (λi=>i.1<=sp.length/\i.2=(sp.take i.1).map (·.R)/\(sp.take i.1).all bf=true/\i.2.Nodup) (λi=>sp.length - i.1) ((0,[])) ?_ (⟨U0 _,rfl,rfl,List.nodup_nil⟩) λi p=>?_
 ·exact wB
 obtain⟨i,S⟩:=i;obtain⟨p,o,h,l⟩:=p;simp only at p o h l |-;have L:S.length=i:=by rw[o,Z0,U1];omega
 by_cases w:i<sp.length
 ·have a:=ao w
  have n:=gK (nth sp i);cases j:bf (nth sp i)<;>rw[j]at n
  ·repeat'(first|refine gD ?_|(conv=>whnf);first|with_reducible refine CC (aa a) ?_|refine C7 n ?_)
   exact W0 (λz=>[B z]) ((qF a j).symm)
  repeat'(first|refine gD ?_|(conv=>whnf);first|with_reducible (first|refine CC (aa a) ?_|refine Bf.D (λy=>?_) (λy=>?_))|refine C7 n ?_|refine CG (mL S _ ω) ⟨⟨rfl,dX _⟩,⟨rfl,rfl⟩,trivial⟩ ?_|refine CT cn (λr E=>by rw[I1.1 E];rfl) (by simp[aY,eg]) (by simp;omega) (by simp only[Z0];exact yI (by simp;omega) (by decide)) rfl ?_)
  all_goals first
   | exact W0 (λz=>[B z]) ((kD (S:=S) (by rw[o];exact E9 a) (by assumption)).symm)
   | ((conv=>whnf)
      refine CD (i+1,S++[(nth sp i).R]) ⟨(by simp only;omega),(by simp only;rw[o,I5,a];simp),(cS a h j),ly l (by assumption)⟩ (by simp only;omega) ?_
      (repeat'(first|exact trivial|rfl|exact CK rfl (CK (W0 (C.s dQ.own) (by simp[rI])) trivial)|refine CK ?_ ?_)))
 obtain rfl:i=sp.length:=ω
 rw[t5]at h o
 repeat'(first|refine gD ?_|fail)
 (conv=>whnf)
 refine CE (ι:=Nat × List Int) (λi=>[(1,.H .one (cy .X la)),(5,.H .one (aD .own i.2)),(7,.H .one [I ((i.1:Nat):Int)])]) (λi=>i.1<=la.length/\i.2=pgs sp (la.take i.1)/\(la.take i.1).all bJ=true/\i.2.Nodup/\i.2.length<=1048576+64*i.1) (λi=>la.length - i.1) ((0,S)) ?_ (⟨U0 _,by rw[o];unfold pgs;simp,rfl,l,by simp only;omega⟩) λi p=>?_
 ·exact wB
 obtain⟨i,S2⟩:=i;obtain⟨F,c,b,d,G⟩:=p;simp only at F c b d G |-;by_cases w:i<la.length
 ·have a:=ao w
  have n:=nG (nth la i);cases j:bJ (nth la i)<;>rw[j]at n
  ·repeat'(first|refine gD ?_|(conv=>whnf);first|with_reducible refine CC (aa a) ?_|refine C7 n ?_)
   exact W0 (λz=>[B z]) ((po a j).symm)
  have M:=aP j
  repeat'(first|refine gD ?_|(conv=>whnf);first|with_reducible refine CC (aa a) ?_|refine C7 n ?_)
  (conv=>whnf)
  refine CE (ι:=Nat × List Int) (λk=>[(1,.H .one (cy .X la)),(5,.H .one (aD .own k.2)),(7,.H .one [I ((i:Nat):Int)]),(8,.H .one [I ((k.1:Nat):Int)])]) (λk=>k.1<=(nth la i).a3.toNat/\k.2=S2++lpgs (nth la i) k.1/\k.2.Nodup) (λk=>(nth la i).a3.toNat - k.1) ((0,S2)) ?_ (⟨U0 _,by simp[lpgs],d⟩) λk H=>?_
  ·exact wB
  obtain⟨k,q⟩:=k;obtain⟨H,e,g⟩:=H;simp only at H e g |-;have N:q.length=S2.length+k:=by rw[e,I3,FM]
  by_cases O:k<(nth la i).a3.toNat
  ·repeat'(first|refine gD ?_|(conv=>whnf);first|with_reducible (first|refine CC (aa a) ?_|refine Bf.D (λy=>?_) (λy=>?_))|refine CG (mL q _ ω) ⟨⟨rfl,dX _⟩,⟨rfl,rfl⟩,trivial⟩ ?_|refine CT cn (λr E=>by rw[I1.1 E];rfl) (by simp[aY,eg]) (by simp;omega) (by show _*8<=_;simp;omega) rfl ?_)
   all_goals first
    | exact W0 (λz=>[B z]) ((kD (S:=q) (by rw[e,c];exact AG a O) (by assumption)).symm)
    | ((conv=>whnf)
       refine CD (k+1,q++[(nth la i).R+(k:Nat)]) ⟨(by simp only;omega),(by simp only;rw[e,kR,O5]),ly g (by assumption)⟩ (by simp only;omega) ?_
       (repeat'(first|exact trivial|rfl|exact CK rfl (CK (W0 (C.s dQ.own) (by simp[rI])) trivial)|refine CK ?_ ?_)))
  obtain rfl:k=(nth la i).a3.toNat:=ω
  repeat'(first|refine gD ?_|(conv=>whnf);first|with_reducible refine CC (aa a) ?_)
  ((conv=>whnf);refine CD (i+1,q) ⟨(by simp only;omega),(by simp only;rw[e,c,<-o7 sp a]),(cS a b j),g,(by simp only;omega)⟩ (by simp only;omega) ?_;(exact wB))
 obtain rfl:i=la.length:=ω
 rw[t5]at b c
 repeat'(first|refine gD ?_|fail)
 exact W0 (λz=>[B z]) ((tf h b (by rw[<-c];exact d)).symm)
def ins(S:List Int)(p:Int):List Int:=if p∈S then S else S++[p]
theorem H8{p:Int} : ∀{S:List Int},p∈S->mput (fW S) p (.bool true)=fW S
 | x::S,h=>by
  simp only[fW,V5,mput];by_cases a:x=p
  ·rw[C9 a,a]
  rw[C8 a];have:=H8 (S:=S) ((List.mem_cons.1 h).resolve_left λe=>a e.symm);simp only[fW]at this;rw[this]
theorem wx(S:List Int)(p:Int):fW (ins S p)=mput (fW S) p (.bool true):=by
 unfold ins;split
 ·rw[H8 (by assumption)]
 rw[tH (by assumption)]
theorem Lk(S:List Int)(p:Int):aW Tryz.prog 239 false [.val none [I p],.ptr [.m (fW S)]] [.val none [I p],.ptr [.m (fW (ins S p))]] .one [B (decide (p∉S))]:=by
 refine fM 12 [] [] [(0,0),(0,0)] Tryz.func239 rfl (λu q=>?_)
 repeat'(first|refine gO ?_|(conv=>whnf);first|refine Ml.mk (nC p S) ?_|refine Mu.mk (wx S p) ?_)
 refine CF rfl ?_ ?_
 ·exact W0 (λz=>[B z]) (by simp)
 exact wB
theorem qv(sp:List ax)(la:List a8)(t:dN sp)(u:dM la):ar Tryz.prog 73 false [.val none (bX .X sp),.val none (cy .X la)] .one [B (bn sp la)]:=by
 have F:=t.1;have G:=u.1;refine fP 54 [(239,[0,2])] [] Tryz.func73 rfl ?_
 repeat'(first|refine gO ?_|fail)
 (conv=>whnf)
 refine CE (ι:=Nat × List Int) (λi=>[(1,.H .one (cy .X la)),(5,.H .box [.m (fW i.2)]),(6,.fn 239 [5]),(14,.H .one (bX .X sp)),(15,.H .one [I (sp.length)]),(16,.H .one [I ((i.1:Nat):Int)])]) (λi=>i.1<=sp.length/\i.2=(sp.take i.1).map (·.R)/\(sp.take i.1).all bf=true/\i.2.Nodup) (λi=>sp.length - i.1) ((0,[])) ?_ (⟨U0 _,rfl,rfl,List.nodup_nil⟩) λi p=>?_
 ·exact wB
 obtain⟨i,S⟩:=i;obtain⟨p,q,h,n⟩:=p;simp only at p q h n |-;by_cases w:i<sp.length
 ·have c:=ao w
  have o:=iI (nth sp i);cases l:bf (nth sp i)<;>rw[l]at o
  ·repeat'(first|refine gD ?_|(conv=>whnf);first|with_reducible refine CC (aa c) ?_|refine C7 o ?_)
   exact W0 (λz=>[B z]) ((qF c l).symm)
  repeat'(first|refine gD ?_|(conv=>whnf);first|with_reducible (first|refine CC (aa c) ?_|refine Bf.D (λy=>?_) (λy=>?_))|refine C7 o ?_|refine CJ (Lk S _) (.inl rfl) ?_)
  all_goals first
   | exact W0 (λz=>[B z]) ((kD (S:=S) (by rw[q];exact E9 c) (by grind)).symm)
   |(have a:(nth sp i).R∉S:=by assumption
     (conv=>whnf)
     refine CD (i+1,ins S (nth sp i).R) ⟨(by simp only;omega),(by simp only;unfold ins;rw[C8 a,q,I5,c];simp),(cS c h l),(by simp only;unfold ins;rw[C8 a];exact ly n a)⟩ (by simp only;omega) ?_
     (exact wA))
 obtain rfl:i=sp.length:=ω
 rw[t5]at h q
 repeat'(first|refine gD ?_|fail)
 (conv=>whnf)
 refine CE (ι:=Nat × List Int) (λi=>[(5,.H .box [.m (fW i.2)]),(6,.fn 239 [5]),(31,.H .one (cy .X la)),(32,.H .one [I (la.length)]),(33,.H .one [I ((i.1:Nat):Int)])]) (λi=>i.1<=la.length/\i.2=pgs sp (la.take i.1)/\(la.take i.1).all bJ=true/\i.2.Nodup) (λi=>la.length - i.1) ((0,S)) ?_ (⟨U0 _,by rw[q];unfold pgs;simp,rfl,n⟩) λi p=>?_
 ·exact wB
 obtain⟨i,S2⟩:=i;obtain⟨C,d,b,e⟩:=p;simp only at C d b e |-;by_cases w:i<la.length
 ·have c:=ao w
  have o:=rV (nth la i);cases l:bJ (nth la i)<;>rw[l]at o
  ·repeat'(first|refine gD ?_|(conv=>whnf);first|with_reducible refine CC (aa c) ?_|refine C7 o ?_)
   exact W0 (λz=>[B z]) ((po c l).symm)
  have H:=aP l
  repeat'(first|refine gD ?_|(conv=>whnf);first|with_reducible refine CC (aa c) ?_|refine C7 o ?_)
  (conv=>whnf)
  refine CE (ι:=Nat × List Int) (λk=>[(5,.H .box [.m (fW k.2)]),(6,.fn 239 [5]),(10,.H .box (a8.enc .X (nth la i))),(11,.H .one [I ((k.1:Nat):Int)]),(31,.H .one (cy .X la)),(32,.H .one [I (la.length)]),(33,.H .one [I ((i:Nat):Int)])]) (λk=>k.1<=(nth la i).a3.toNat/\k.2=S2++lpgs (nth la i) k.1/\k.2.Nodup) (λk=>(nth la i).a3.toNat - k.1) ((0,S2)) ?_ (⟨U0 _,by simp[lpgs],e⟩) λk E=>?_
  ·exact wB
  obtain⟨k,r⟩:=k;obtain⟨E,j,g⟩:=E;simp only at E j g |-;by_cases J:k<(nth la i).a3.toNat
  ·repeat'(first|refine gD ?_|(conv=>whnf);first|with_reducible refine Bf.D (λy=>?_) (λy=>?_)|refine CJ (Lk r _) (.inl rfl) ?_)
   all_goals first
    | exact W0 (λz=>[B z]) ((kD (S:=r) (by rw[j,d];exact AG c J) (by grind)).symm)
    |(have a:(nth la i).R+(k:Nat)∉r:=by assumption
      (conv=>whnf)
      refine CD (k+1,ins r ((nth la i).R+(k:Nat))) ⟨(by simp only;omega),(by simp only;unfold ins;rw[C8 a,j,kR,O5]),(by simp only;unfold ins;rw[C8 a];exact ly g a)⟩ (by simp only;omega) ?_
      (exact wA))
  obtain rfl:k=(nth la i).a3.toNat:=ω
  repeat'(first|refine gD ?_|fail)
  ((conv=>whnf);refine CD (i+1,r) ⟨(by simp only;omega),(by simp only;rw[j,d,<-o7 sp c]),(cS c b l),g⟩ (by simp only;omega) ?_;(exact wB))
 obtain rfl:i=la.length:=ω
 rw[t5]at b d
 repeat'(first|refine gD ?_|fail)
 exact W0 (λz=>[B z]) ((tf h b (by rw[<-d];exact e)).symm)
theorem aF{s:ax}(h:bf s=true):0<=s.R/\s.R<=31/\0<=s.d/\s.d<=3:=by
 unfold bf at h;simp only[C0]at h;omega
theorem bO{k:Int}(h:0<=k/\k<=3):csz k=1\/csz k=2\/csz k=4\/csz k=8:=by
 obtain rfl|rfl|rfl|rfl:k=0\/k=1\/k=2\/k=3:=ω
 all_goals decide
theorem kb{x y:Int}(h:0<=x):x.tdiv y=x / y:=Int.tdiv_eq_ediv_of_nonneg h
theorem dK{x y:Int}(h:0<=x):x.tmod y=x % y:=Int.tmod_eq_emod_of_nonneg h
def S2(p:Int × Int):List C:=[I p.1,I p.2]
theorem Ax{a b:Int}{p:Int × Int}(h:(a,b)=p):[I a,I b]=S2 p:=by subst h;rfl
theorem vi(s:ax)(a:Int)(k:mS a):ar Tryz.prog 476 false [.val (some 3) (ax.enc .X s),.val none [I a]] (.tup [none,none]) (S2 (iR s a)):=by
 have g:=gK s;have l:=dZ s.d;obtain⟨n,o⟩:=k;cases b:bf s<;>rw[b]at g
 ·refine fO 33 [(4,12,[23,24,25,26,27,28,29,30,31,32,4,5])] Tryz.func476 rfl ?_ (.inr ⟨trivial,trivial,trivial⟩)
  repeat'(first|refine gO ?_|(conv=>whnf);first|refine C7 g ?_)
  exact Ax (by unfold iR cz;rw[b];rfl)
 have h:=aF b;have i:=bO ⟨h.2.2.1,h.2.2.2⟩;by_cases c:16*s.R<=a/\a<=16*s.R+15
 ·have j:0<=a:=ω
  refine fO 33 [(4,12,[23,24,25,26,27,28,29,30,31,32,4,5])] Tryz.func476 rfl ?_ (.inr ⟨trivial,trivial,trivial⟩)
  repeat'(first|refine gD ?_|(conv=>whnf);first|with_reducible refine Bf.N (λd=>?_) (λd=>?_)|refine C7 g ?_|refine C7 l ?_|refine CN (by decide) ?_|refine CN ω ?_|refine CM ((W0 _ (kb j)).trans (eN ω ω)) ?_|refine CQ (dK j) ?_|refine CM ((W0 _ (kb ω)).trans (eN (by rcases i with e|e|e|e<;>rw[e]<;>omega) (by rcases i with e|e|e|e<;>rw[e]<;>omega))) ?_|refine CQ (dK ω) ?_)
  all_goals first
   |(exfalso;omega)
   |exact Ax (by unfold iR cz;rw[b,O0 c];show _=((a - 16*s.R) / csz s.d,(a - 16*s.R) % csz s.d);rw[show a % 16=a - 16*s.R by omega])
 refine fO 33 [(4,12,[23,24,25,26,27,28,29,30,31,32,4,5])] Tryz.func476 rfl ?_ (.inr ⟨trivial,trivial,trivial⟩)
 repeat'(first|refine gO ?_|(conv=>whnf);first|with_reducible (first|refine Bf.D (λd=>?_) (λd=>?_)|refine Bf.N (λd=>?_) (λd=>?_))|refine C7 g ?_|refine CN (by decide) ?_|refine CM ((W0 _ (kb ω)).trans (eN ω ω)) ?_)
 all_goals first
  |exact Ax (by unfold iR cz;rw[b,T0 c];rfl)
  |(exfalso;omega)
theorem Fy(s:ax)(a:Int):ar Tryz.prog 260 false [.val (some 3) (ax.enc .X s),.val none [I a]] (.tup [none,none]) (S2 (iR s a)):=by
 have d:=iI s;have j:=ef s.d;cases b:bf s<;>rw[b]at d
 ·refine fO 38 [(4,12,[28,29,30,31,32,33,34,35,36,37,4,5])] Tryz.func260 rfl ?_ (.inr ⟨trivial,trivial,trivial⟩)
  repeat'(first|refine gO ?_|(conv=>whnf);first|refine C7 d ?_)
  exact Ax (by unfold iR cz;rw[b];rfl)
 have h:=aF b;have i:=bO ⟨h.2.2.1,h.2.2.2⟩;by_cases c:16*s.R<=a/\a<=16*s.R+15
 ·refine fO 38 [(4,12,[28,29,30,31,32,33,34,35,36,37,4,5])] Tryz.func260 rfl ?_ (.inr ⟨trivial,trivial,trivial⟩)
  repeat'(first|refine gD ?_|(conv=>whnf);first|with_reducible refine Bf.D (λg=>?_) (λg=>?_)|refine C7 d ?_|refine C7 j ?_|refine C7 (aM _ _ _) ?_|refine CN ω ?_|refine CM ((W0 _ (kb ω)).trans (eN (by rcases i with e|e|e|e<;>rw[e]<;>omega) (by rcases i with e|e|e|e<;>rw[e]<;>omega))) ?_|refine CQ (dK ω) ?_)
  all_goals exact Ax (by unfold iR cz;rw[b,O0 c];show _=((a - 16*s.R) / csz s.d,(a - 16*s.R) % csz s.d);rw[show a - s.R*16=a - 16*s.R by omega])
 refine fO 38 [(4,12,[28,29,30,31,32,33,34,35,36,37,4,5])] Tryz.func260 rfl ?_ (.inr ⟨trivial,trivial,trivial⟩)
 repeat'(first|refine gD ?_|(conv=>whnf);first|with_reducible refine Bf.D (λg=>?_) (λg=>?_)|refine C7 d ?_|refine C7 (aM _ _ _) ?_)
 all_goals exact Ax (by unfold iR cz;rw[b,T0 c];rfl)
theorem pL(b i:Int):ar Tryz.prog 539 false [.val none [I b],.val none [I i]] .one [B (decide (0<=b/\0<=i/\i<=15))]:=by
 refine fO 11 [] Tryz.func539 rfl ?_
 repeat'(first|refine gO ?_|(conv=>whnf);first|with_reducible refine Bf.D (λa=>?_) (λa=>?_)|refine C7 (aG _ 0 15) ?_)
 all_goals exact W0 (λz=>[B z]) ((by first|(symm;exact T0 ω)|exact decide_eq_decide.2 ω))
theorem A8(b i:Int):ar Tryz.prog 396 false [.val none [I b],.val none [I i]] .one [B (decide (0<=b/\0<=i/\i<=15))]:=by
 refine fO 11 [] Tryz.func396 rfl ?_
 repeat'(first|refine gO ?_|(conv=>whnf);first|with_reducible refine Bf.D (λa=>?_) (λa=>?_)|refine C7 (aM _ 0 15) ?_)
 all_goals exact W0 (λz=>[B z]) ((by first|(symm;exact T0 ω)|exact decide_eq_decide.2 ω))
theorem Lv{b i:Int}(a:0<=b/\b<=9223372036854775807)(e:0<=i/\i<=15):b.fdiv (2 ^ min i.toNat IntKind.i64.bits)=b / 2 ^ i.toNat/\0<=b / 2 ^ i.toNat/\b / 2 ^ i.toNat<=9223372036854775807:=by
 have d:min i.toNat IntKind.i64.bits=i.toNat:=Nat.min_eq_left (show i.toNat<=64 by omega);rw[d];have c:(0:Int)<=2 ^ i.toNat:=Int.pow_nonneg (by decide);refine⟨Int.fdiv_eq_ediv_of_nonneg _ c,Int.ediv_nonneg a.1 c,?_⟩;have:=Int.ediv_le_self (2 ^ i.toNat:Int) a.1;omega
theorem yC{b i:Int}(a:0<=b)(e:0<=i/\i<=15):((((b / 2 ^ i.toNat).toNat &&& (1:Int).toNat:Nat):Int) == 1)=aS b i:=by
 have c:(0:Int)<=b / 2 ^ i.toNat:=Int.ediv_nonneg a (Int.pow_nonneg (by decide));have d:(b / 2 ^ i.toNat).toNat &&& (1:Int).toNat=(b / 2 ^ i.toNat).toNat % 2:=Nat.and_one_is_mod _;rw[d];unfold aS;generalize b / 2 ^ i.toNat=q at c |-;rw[V4,beq_iff_eq,C0];omega
theorem iW(b i:Int)(c:b<=9223372036854775807):ar Tryz.prog 477 false [.val none [I b],.val none [I i]] .one [B (aS b i)]:=by
 by_cases h:0<=b/\0<=i/\i<=15
 ·obtain⟨d,g⟩:=Lv (b:=b) (i:=i) ⟨h.1,c⟩ h.2
  have j:IntKind.u64.wrap i=i:=by unfold IntKind.wrap;simp[IntKind.signed,IntKind.bits];omega
  refine fO 16 [] Tryz.func477 rfl ?_
  repeat'(first|refine gD ?_|(conv=>whnf);first|with_reducible refine Bf.D (λa=>?_) (λa=>?_)|refine C7 (pL _ _) ?_|refine CN ω ?_|refine CM j ?_|refine CQ d ?_|refine CM (and64 g ⟨by decide,by decide⟩) ?_)
  all_goals exact W0 (λz=>[B z]) ((yC h.1 h.2))
 refine fO 16 [] Tryz.func477 rfl ?_
 repeat'(first|refine gD ?_|(conv=>whnf);first|with_reducible refine Bf.D (λa=>?_) (λa=>?_)|refine C7 (pL _ _) ?_)
 all_goals exact W0 (λz=>[B z]) ((by unfold aS;symm;exact T0 λe=>h ⟨e.1,e.2.1,e.2.2.1⟩))
theorem kF(b i:Int)(c:b<=9223372036854775807):ar Tryz.prog 261 false [.val none [I b],.val none [I i]] .one [B (aS b i)]:=by
 by_cases h:0<=b/\0<=i/\i<=15
 ·obtain⟨d,g⟩:=Lv (b:=b) (i:=i) ⟨h.1,c⟩ h.2
  refine fO 15 [] Tryz.func261 rfl ?_
  repeat'(first|refine gD ?_|(conv=>whnf);first|with_reducible refine Bf.D (λa=>?_) (λa=>?_)|refine C7 (A8 _ _) ?_|refine CN ω ?_|refine CQ d ?_|refine CM (and64 g ⟨by decide,by decide⟩) ?_)
  all_goals exact W0 (λz=>[B z]) ((yC h.1 h.2))
 refine fO 15 [] Tryz.func261 rfl ?_
 repeat'(first|refine gD ?_|(conv=>whnf);first|with_reducible refine Bf.D (λa=>?_) (λa=>?_)|refine C7 (A8 _ _) ?_)
 all_goals exact W0 (λz=>[B z]) ((by unfold aS;symm;exact T0 λe=>h ⟨e.1,e.2.1,e.2.2.1⟩))
theorem cQ{l:a8}(h:bJ l=true):9<=l.q/\l.q<=1000/\0<=l.R/\l.R<=31:=by
 unfold bJ at h;simp only[C0]at h;omega
theorem qu(l:a8)(a:Int):ar Tryz.prog 478 false [.val (some 3) (a8.enc .X l),.val none [I a]] .one [B (bq l a)]:=by
 have c:=nG l;cases b:bJ l<;>rw[b]at c
 ·refine fO 24 [] Tryz.func478 rfl ?_
  repeat'(first|refine gO ?_|(conv=>whnf);first|refine C7 c ?_)
  exact W0 (λz=>[B z]) ((by unfold bq;rw[b];rfl))
 have e:=cQ b;refine fO 24 [] Tryz.func478 rfl ?_
 repeat'(first|refine gO ?_|(conv=>whnf);first|with_reducible refine Bf.D (λd=>?_) (λd=>?_)|refine C7 c ?_)
 all_goals exact W0 (λz=>[B z]) ((by unfold bq;rw[b,Bool.true_and];first|(symm;exact T0 ω)|exact decide_eq_decide.2 ω))
theorem qC(l:a8)(a:Int):ar Tryz.prog 259 false [.val (some 3) (a8.enc .X l),.val none [I a]] .one [B (bq l a)]:=by
 have c:=rV l;cases b:bJ l<;>rw[b]at c
 ·refine fO 21 [] Tryz.func259 rfl ?_
  repeat'(first|refine gO ?_|(conv=>whnf);first|refine C7 c ?_)
  exact W0 (λz=>[B z]) ((by unfold bq;rw[b];rfl))
 have e:=cQ b;refine fO 21 [] Tryz.func259 rfl ?_
 repeat'(first|refine gO ?_|(conv=>whnf);first|with_reducible refine Bf.D (λd=>?_) (λd=>?_)|refine C7 c ?_|refine C7 (aM _ _ _) ?_)
 all_goals exact W0 (λz=>[B z]) ((by unfold bq;rw[b,Bool.true_and];exact decide_eq_decide.2 ω))
theorem tW(l:a8)(a:Int)(h:bq l a=true):ar Tryz.prog 479 false [.val (some 3) (a8.enc .X l),.val none [I a]] .one [I (a - 16*l.R)]:=by
 have b:=qu l a;rw[h]at b;unfold bq at h;simp only[I0,C0]at h;have c:=cQ h.1;refine fO 14 [] Tryz.func479 rfl ?_
 repeat'(first|refine gO ?_|(conv=>whnf);first|refine C7 b ?_)
 exact W0 (λz=>[I z]) ω
theorem tX(l:a8)(a:Int)(h:bq l a=true):ar Tryz.prog 262 false [.val (some 3) (a8.enc .X l),.val none [I a]] .one [I (a - 16*l.R)]:=by
 have b:=qC l a;rw[h]at b;unfold bq at h;simp only[I0,C0]at h;have c:=cQ h.1;refine fO 14 [] Tryz.func262 rfl ?_
 repeat'(first|refine gO ?_|(conv=>whnf);first|refine C7 b ?_)
 exact W0 (λz=>[I z]) ω
theorem pN{m:aK}{i:Nat}(a:i<m.U.length)(h:gN m i=false):bN m=false:=by
 unfold bN;rw[cA a h];simp
theorem yx{m:aK}(h:¬(1<=m.U.length/\m.U.length<=4/\m.a1.length=m.U.length)):bN m=false:=by
 unfold bN;rw[T0 h];rfl
theorem yf{m:aK}(h1:1<=m.U.length/\m.U.length<=4/\m.a1.length=m.U.length)(a:cY m.U.length (gN m)=true):bN m=decide (bx m m.U.length<=30):=by
 unfold bN;rw[O0 h1,a];rfl
theorem lV(m:aK)(h:aK.sml m):ar Tryz.prog 145 false [.val (some 2) (aK.enc .X m)] .one [B (bN m)]:=by
 have u:m.U.length<=1048576:=h.1.1;have w:m.a1.length<=1048576:=h.2.1;by_cases n:1<=m.U.length/\m.U.length<=4/\m.a1.length=m.U.length
 ·refine fO 92 [(19,15,[75,76,77,78,79,80,81,82,83,84,85,86,87,88,89])] Tryz.func145 rfl ?_
  repeat'(first|refine gA ?_|(conv=>whnf);first|with_reducible (first|refine Bf.D (λa=>?_) (λa=>?_)|refine Bf.N (λa=>?_) (λa=>?_))|refine C7 (aG _ 1 4) ?_)
  (conv=>whnf)
  refine CE (ι:=Nat) (λi=>[(1,.H .box (aK.enc .X m)),(3,.H .one [I (m.U.length)]),(4,.H .one [I (bx m i)]),(5,.H .one [I ((i:Nat):Int)])]) (λi=>i<=m.U.length/\cY i (gN m)=true/\0<=bx m i/\bx m i<=2097152*i) (λi=>m.U.length - i) (0) ?_ (⟨U0 _,rfl,by simp[bx],by simp[bx]⟩) λi o=>?_
  ·exact wB
  obtain⟨o,p,G,H⟩:=o;by_cases j:i<m.U.length
  ·have l:=ao j
   have q:=ao (xs:=m.a1) (i:=i) ω;have y:(nth m.U i).length<=1048576:=(h.1.2 _ (am j)).1;have C:(nth m.a1 i).length<=1048576:=h.2.2 _ (am ω)
   repeat'(first|refine gD ?_|fail)
   (conv=>whnf)
   refine CE (ι:=Nat) (λk=>[(1,.H .box (aK.enc .X m)),(3,.H .one [I (m.U.length)]),(4,.H .one [I (bx m i)]),(5,.H .one [I ((i:Nat):Int)]),(6,.H .one [I ((k:Nat):Int)])]) (λk=>k<=(nth m.U i).length/\((nth m.U i).take k).all (nt m.U.length)=true) (λk=>(nth m.U i).length - k) (0) ?_ (⟨U0 _,rfl⟩) λk r=>?_
   ·exact wB
   obtain⟨r,t⟩:=r;by_cases E:k<(nth m.U i).length
   ·have c:=ao E
    repeat'(first|refine gD ?_|(conv=>whnf);first|with_reducible (first|refine CC (aa l) ?_|refine CC (aa c) ?_|refine Bf.D (λa=>?_) (λa=>?_))|refine C7 (aG _ 0 _) ?_)
    all_goals first
     | exact W0 (λz=>[B z]) ((pN j (by unfold gN;rw[fg c (by unfold nt;exact T0 ω)];rfl)).symm)
     | ((conv=>whnf);refine CD (k+1) ⟨ω,cS c t (by unfold nt;exact O0 ω)⟩ ω ?_;(exact wB))
   have F:=gQ ω t
   repeat'(first|refine gD ?_|(conv=>whnf);first|with_reducible refine CC (aa l) ?_)
   (conv=>whnf)
   refine CE (ι:=Nat) (λb=>[(1,.H .box (aK.enc .X m)),(3,.H .one [I (m.U.length)]),(4,.H .one [I (bx m i)]),(5,.H .one [I ((i:Nat):Int)]),(8,.H .one [I ((b:Nat):Int)])]) (λb=>b<=(nth m.a1 i).length/\((nth m.a1 i).take b).all Po=true) (λb=>(nth m.a1 i).length - b) (0) ?_ (⟨U0 _,rfl⟩) λb e=>?_
   ·exact wB
   obtain⟨e,ak2⟩:=e;by_cases lk2:b<(nth m.a1 i).length
   ·have c:=ao lk2
    repeat'(first|refine gD ?_|(conv=>whnf);first|with_reducible (first|refine CC (aa q) ?_|refine CC (aa c) ?_|refine Bf.D (λa=>?_) (λa=>?_)))
    all_goals first
     | exact W0 (λz=>[B z]) ((pN j (by unfold gN;rw[fg c (by unfold Po;exact T0 ω)];simp)).symm)
     | ((conv=>whnf);refine CD (b+1) ⟨ω,cS c ak2 (by unfold Po;exact O0 ω)⟩ ω ?_;(exact wB))
   have ae2:=gQ ω ak2;have g:bx m (i+1)=bx m i+((nth m.U i).length+(nth m.a1 i).length):=rfl;have d:bx m (i+1)=bx m i+(nth m.U i).length+(nth m.a1 i).length:=by rw[g];omega
   repeat'(first|refine gD ?_|(conv=>whnf);first|with_reducible (first|refine CC (aa l) ?_|refine CC (aa q) ?_))
   ((conv=>whnf);refine CD (i+1) ⟨ω,bS p (by unfold gN;rw[F,ae2];rfl),ω,ω⟩ ω ?_)
   rw[d];exact wB
  obtain rfl:i=m.U.length:=ω
  repeat'(first|refine gD ?_|fail)
  exact W0 (λz=>[B z]) ((yf n p).symm)
 refine fO 92 [(19,15,[75,76,77,78,79,80,81,82,83,84,85,86,87,88,89])] Tryz.func145 rfl ?_
 repeat'(first|refine gO ?_|(conv=>whnf);first|with_reducible (first|refine Bf.D (λa=>?_) (λa=>?_)|refine Bf.N (λa=>?_) (λa=>?_))|refine C7 (aG _ 1 4) ?_)
 all_goals first
  | exact W0 (λz=>[B z]) ((yx n).symm)
  |(exfalso;omega)
theorem vA(m:aK)(g:aK.sml m):ar Tryz.prog 75 false [.val (some 2) (aK.enc .X m)] .one [B (bN m)]:=by
 have t:m.U.length<=1048576:=g.1.1;have u:m.a1.length<=1048576:=g.2.1;by_cases n:1<=m.U.length/\m.U.length<=4/\m.a1.length=m.U.length
 ·refine fO 82 [(20,15,[64,65,66,67,68,69,70,71,72,73,74,75,76,77,78])] Tryz.func75 rfl ?_
  repeat'(first|refine gA ?_|(conv=>whnf);first|with_reducible (first|refine Bf.D (λa=>?_) (λa=>?_)|refine Bf.N (λa=>?_) (λa=>?_))|refine C7 (aM _ 1 4) ?_)
  (conv=>whnf)
  refine CE (ι:=Nat) (λi=>[(1,.H .box (aK.enc .X m)),(3,.H .one [I (m.U.length)]),(4,.H .one [I (bx m i)]),(25,.H .one [I (m.U.length)]),(26,.H .one [I ((i:Nat):Int)])]) (λi=>i<=m.U.length/\cY i (gN m)=true/\0<=bx m i/\bx m i<=2097152*i) (λi=>m.U.length - i) (0) ?_ (⟨U0 _,rfl,by simp[bx],by simp[bx]⟩) λi o=>?_
  ·exact wB
  obtain⟨o,p,F,G⟩:=o;by_cases h:i<m.U.length
  ·have j:=ao h
   have l:=ao (xs:=m.a1) (i:=i) ω;have w:(nth m.U i).length<=1048576:=(g.1.2 _ (am h)).1;have y:(nth m.a1 i).length<=1048576:=g.2.2 _ (am ω)
   repeat'(first|refine gD ?_|(conv=>whnf);first|with_reducible refine CC (aa j) ?_)
   (conv=>whnf)
   refine CE (ι:=Nat) (λk=>[(1,.H .box (aK.enc .X m)),(3,.H .one [I (m.U.length)]),(4,.H .one [I (bx m i)]),(5,.H .one [I ((i:Nat):Int)]),(25,.H .one [I (m.U.length)]),(26,.H .one [I ((i:Nat):Int)]),(33,.H .one (cK .X (nth m.U i))),(34,.H .one [I ((nth m.U i).length)]),(35,.H .one [I ((k:Nat):Int)])]) (λk=>k<=(nth m.U i).length/\((nth m.U i).take k).all (nt m.U.length)=true) (λk=>(nth m.U i).length - k) (0) ?_ (⟨U0 _,rfl⟩) λk q=>?_
   ·exact wB
   obtain⟨q,r⟩:=q;by_cases C:k<(nth m.U i).length
   ·have c:=ao C
    repeat'(first|refine gD ?_|(conv=>whnf);first|with_reducible (first|refine CC (aa j) ?_|refine CC (aa c) ?_|refine Bf.D (λa=>?_) (λa=>?_))|refine C7 (aM _ 0 _) ?_)
    all_goals first
     | exact W0 (λz=>[B z]) ((pN h (by unfold gN;rw[fg c (by unfold nt;exact T0 ω)];rfl)).symm)
     | ((conv=>whnf);refine CD (k+1) ⟨ω,cS c r (by unfold nt;exact O0 ω)⟩ ω ?_;(exact wB))
   have E:=gQ ω r
   repeat'(first|refine gD ?_|(conv=>whnf);first|with_reducible (first|refine CC (aa j) ?_|refine CC (aa l) ?_))
   (conv=>whnf)
   refine CE (ι:=Nat) (λb=>[(1,.H .box (aK.enc .X m)),(3,.H .one [I (m.U.length)]),(4,.H .one [I (bx m i)]),(5,.H .one [I ((i:Nat):Int)]),(25,.H .one [I (m.U.length)]),(26,.H .one [I ((i:Nat):Int)]),(55,.H .one (aD .X (nth m.a1 i))),(56,.H .one [I ((nth m.a1 i).length)]),(57,.H .one [I ((b:Nat):Int)])]) (λb=>b<=(nth m.a1 i).length/\((nth m.a1 i).take b).all Po=true) (λb=>(nth m.a1 i).length - b) (0) ?_ (⟨U0 _,rfl⟩) λb d=>?_
   ·exact wB
   obtain⟨d,ak2⟩:=d;by_cases lk2:b<(nth m.a1 i).length
   ·have c:=ao lk2
    repeat'(first|refine gD ?_|(conv=>whnf);first|with_reducible (first|refine CC (aa l) ?_|refine CC (aa c) ?_|refine Bf.D (λa=>?_) (λa=>?_)))
    all_goals first
     | exact W0 (λz=>[B z]) ((pN h (by unfold gN;rw[fg c (by unfold Po;exact T0 ω)];simp)).symm)
     | ((conv=>whnf);refine CD (b+1) ⟨ω,cS c ak2 (by unfold Po;exact O0 ω)⟩ ω ?_;(exact wB))
   have ae2:=gQ ω ak2;have e:bx m (i+1)=bx m i+((nth m.U i).length+(nth m.a1 i).length):=rfl
   repeat'(first|refine gD ?_|(conv=>whnf);first|with_reducible (first|refine CC (aa j) ?_|refine CC (aa l) ?_))
   ((conv=>whnf);refine CD (i+1) ⟨ω,bS p (by unfold gN;rw[E,ae2];rfl),ω,ω⟩ ω ?_)
   rw[e];exact wB
  obtain rfl:i=m.U.length:=ω
  repeat'(first|refine gD ?_|fail)
  exact W0 (λz=>[B z]) ((yf n p).symm)
 refine fO 82 [(20,15,[64,65,66,67,68,69,70,71,72,73,74,75,76,77,78])] Tryz.func75 rfl ?_
 repeat'(first|refine gO ?_|(conv=>whnf);first|with_reducible (first|refine Bf.D (λa=>?_) (λa=>?_)|refine Bf.N (λa=>?_) (λa=>?_))|refine C7 (aM _ 1 4) ?_)
 all_goals first
  | exact W0 (λz=>[B z]) ((yx n).symm)
  |(exfalso;omega)
theorem zZ{s:ax}{a:Int}(h:cz s a=false):S2 (iR s a)=[I (-1),I (-1)]:=by
 unfold iR;rw[h];rfl
theorem w6{s:ax}{a:Int}(h:cz s a=true):S2 (iR s a)=[I ((a - 16*s.R) / csz s.d),I ((a - 16*s.R) % csz s.d)]:=by
 unfold iR;rw[h];rfl
theorem sX{s:ax}{a:Int}(h:cz s a=true):bf s=true/\0<=(a - 16*s.R) / csz s.d/\(a - 16*s.R) / csz s.d<=15:=by
 unfold cz at h;simp only[I0,C0]at h;have b:=aF h.1;refine⟨h.1,?_⟩;rcases bO ⟨b.2.2.1,b.2.2.2⟩ with e|e|e|e<;>rw[e]<;>omega
theorem n9{sp:List ax}{la:List a8}{a:Int}{i:Nat}(b:i<sp.length)(h:cz (nth sp i) a=true)(c:∀(j:Nat)(z:ax),j<i->sp[j]? = some z->cz z a=false):denotes sp la a=ow i (nth sp i) a:=by
 unfold denotes;rw[wb (pr:=(cz · a)) (ao b) h c]
theorem mr{sp:List ax}{la:List a8}{a:Int}{i n:Nat}(b:sp.length<=n)(c:∀(j:Nat)(z:ax),j<n->sp[j]? = some z->cz z a=false)(d:i<la.length)(h:bq (nth la i) a=true)(e:∀(j:Nat)(z:a8),j<i->la[j]? = some z->bq z a=false) :
  denotes sp la a = ⟨3,i,0,a - 16*(nth la i).R⟩:=by
 unfold denotes;rw[wV (pr:=(cz · a)) b c,wb (pr:=(bq · a)) (ao d) h e]
theorem xm{sp:List ax}{la:List a8}{a:Int}{n k:Nat}(b:sp.length<=n)(c:∀(j:Nat)(z:ax),j<n->sp[j]? = some z->cz z a=false)(d:la.length<=k)(e:∀(j:Nat)(z:a8),j<k->la[j]? = some z->bq z a=false):denotes sp la a = ⟨0,0,0,0⟩:=by
 unfold denotes;rw[wV (pr:=(cz · a)) b c,wV (pr:=(bq · a)) d e]
theorem nj(sp:List ax)(la:List a8)(a:Int)(e:dN sp)(g:dM la)(h:bn sp la=true)(C:mS a):ar Tryz.prog 376 false [.val none (bX .X sp),.val none (cy .X la),.val none [I a]] .agg (jw.enc .own (denotes sp la a)):=by
 have E:=e.1;have F:=g.1;have q:=me sp la e g;rw[h]at q;refine fO 67 [] Tryz.func376 rfl ?_ (.inr (jw.enc_fr _))
 repeat'(first|refine gO ?_|(conv=>whnf);first|refine C7 q ?_)
 (conv=>whnf)
 refine CE (ι:=Nat) (λi=>[(0,.H .one (bX .X sp)),(1,.H .one (cy .X la)),(2,.H .one [I (a)]),(6,.H .box ([I 0,I 0,I 0,I 0])),(7,.H .one [I ((i:Nat):Int)])]) (λi=>i<=sp.length/\∀(j:Nat)(z:ax),j<i->sp[j]? = some z->cz z a=false) (λi=>sp.length - i) (0) ?_ (⟨U0 _,λj z G=>ω⟩) λi r=>?_
 ·exact wB
 obtain⟨r,l⟩:=r;by_cases t:i<sp.length
 ·have d:=ao t
  have c:=vi (nth sp i) a C;cases b:cz (nth sp i) a with
  | false=>
   rw[zZ b]at c
   repeat'(first|refine gD ?_|(conv=>whnf);first|with_reducible (first|refine CC (aa d) ?_|refine Bf.D (λo=>?_) (λo=>?_))|refine C7 c ?_)
   ((conv=>whnf);refine CD (i+1) ⟨ω,dv (pr:=(cz · a)) d b l⟩ ω ?_;(exact wB))
  | true=>
   rw[w6 b]at c;obtain⟨H,J,K⟩:=sX b;have u:=iW (nth sp i).b2 ((a - 16*(nth sp i).R) / csz (nth sp i).d) (fx H).2;cases w:aS (nth sp i).b2 ((a - 16*(nth sp i).R) / csz (nth sp i).d)<;>rw[w]at u
   all_goals
    repeat'(first|refine gD ?_|(conv=>whnf);first|with_reducible (first|refine CC (aa d) ?_|refine Bf.D (λo=>?_) (λo=>?_))|refine C7 c ?_|refine C7 u ?_)
    all_goals(rw[n9 t b l];unfold ow;rw[w];rfl)
 repeat'(first|refine gD ?_|fail)
 (conv=>whnf)
 refine CE (ι:=Nat) (λk=>[(1,.H .one (cy .X la)),(2,.H .one [I (a)]),(6,.H .box ([I 0,I 0,I 0,I 0])),(11,.H .one [I ((k:Nat):Int)])]) (λk=>k<=la.length/\∀(j:Nat)(z:a8),j<k->la[j]? = some z->bq z a=false) (λk=>la.length - k) (0) ?_ (⟨U0 _,λj z G=>ω⟩) λk y=>?_
 ·exact wB
 obtain⟨y,p⟩:=y;by_cases B:k<la.length
 ·have d:=ao B
  have c:=qu (nth la k) a;cases b:bq (nth la k) a<;>rw[b]at c
  ·repeat'(first|refine gD ?_|(conv=>whnf);first|with_reducible refine CC (aa d) ?_|refine C7 c ?_)
   ((conv=>whnf);refine CD (k+1) ⟨ω,dv (pr:=(bq · a)) d b p⟩ ω ?_;(exact wB))
  repeat'(first|refine gD ?_|(conv=>whnf);first|with_reducible refine CC (aa d) ?_|refine C7 c ?_|refine C7 (tW (nth la k) a b) ?_)
  rw[mr (n:=i) ω l B b p];rfl
 repeat'(first|refine gD ?_|fail)
 rw[xm (n:=i) (k:=k) ω l ω p];rfl
theorem sF(sp:List ax)(la:List a8)(a:Int)(g:dN sp)(h:dM la):ar Tryz.prog 97 false [.val none (bX .X sp),.val none (cy .X la),.val none [I a]] .agg (jw.enc .own (denotes sp la a)):=by
 have y:=g.1;have B:=h.1;refine fO 56 [] Tryz.func97 rfl ?_ (.inr (jw.enc_fr _))
 repeat'(first|refine gO ?_|fail)
 (conv=>whnf)
 refine CE (ι:=Nat) (λi=>[(1,.H .one (cy .X la)),(2,.H .one [I (a)]),(6,.H .box ([I 0,I 0,I 0,I 0])),(14,.H .one (bX .X sp)),(15,.H .one [I (sp.length)]),(16,.H .one [I ((i:Nat):Int)])]) (λi=>i<=sp.length/\∀(j:Nat)(z:ax),j<i->sp[j]? = some z->cz z a=false) (λi=>sp.length - i) (0) ?_ (⟨U0 _,λj z C=>ω⟩) λi p=>?_
 ·exact wB
 obtain⟨p,e⟩:=p;by_cases q:i<sp.length
 ·have d:=ao q
  have c:=Fy (nth sp i) a;cases b:cz (nth sp i) a with
  | false=>
   rw[zZ b]at c
   repeat'(first|refine gD ?_|(conv=>whnf);first|with_reducible (first|refine CC (aa d) ?_|refine Bf.D (λl=>?_) (λl=>?_))|refine C7 c ?_)
   ((conv=>whnf);refine CD (i+1) ⟨ω,dv (pr:=(cz · a)) d b e⟩ ω ?_;(exact wB))
  | true=>
   rw[w6 b]at c;obtain⟨E,F,G⟩:=sX b;have r:=kF (nth sp i).b2 ((a - 16*(nth sp i).R) / csz (nth sp i).d) (fx E).2;cases t:aS (nth sp i).b2 ((a - 16*(nth sp i).R) / csz (nth sp i).d)<;>rw[t]at r
   all_goals
    repeat'(first|refine gD ?_|(conv=>whnf);first|with_reducible (first|refine CC (aa d) ?_|refine Bf.D (λl=>?_) (λl=>?_))|refine C7 c ?_|refine C7 r ?_)
    all_goals(rw[n9 q b e];unfold ow;rw[t];rfl)
 repeat'(first|refine gD ?_|fail)
 (conv=>whnf)
 refine CE (ι:=Nat) (λk=>[(2,.H .one [I (a)]),(6,.H .box ([I 0,I 0,I 0,I 0])),(39,.H .one (cy .X la)),(40,.H .one [I (la.length)]),(41,.H .one [I ((k:Nat):Int)])]) (λk=>k<=la.length/\∀(j:Nat)(z:a8),j<k->la[j]? = some z->bq z a=false) (λk=>la.length - k) (0) ?_ (⟨U0 _,λj z C=>ω⟩) λk u=>?_
 ·exact wB
 obtain⟨u,o⟩:=u;by_cases w:k<la.length
 ·have d:=ao w
  have c:=qC (nth la k) a;cases b:bq (nth la k) a<;>rw[b]at c
  ·repeat'(first|refine gD ?_|(conv=>whnf);first|with_reducible refine CC (aa d) ?_|refine C7 c ?_)
   ((conv=>whnf);refine CD (k+1) ⟨ω,dv (pr:=(bq · a)) d b o⟩ ω ?_;(exact wB))
  repeat'(first|refine gD ?_|(conv=>whnf);first|with_reducible refine CC (aa d) ?_|refine C7 c ?_|refine C7 (tX (nth la k) a b) ?_)
  rw[mr (n:=i) ω e w b o];rfl
 repeat'(first|refine gD ?_|fail)
 rw[xm (n:=i) (k:=k) ω e ω o];rfl
section
variable{α:Type}
def zC(ag:Option Nat)(e:α->List C)(pr:α->Bool)(xs:List α):List (Option Nat × List C)->Kd->List C->Prop:=λL k rcs=>∃x,x∈xs/\L=[(ag,e x)]/\k=.one/\rcs=[B (pr x)]
end
theorem vC(xs:List aA)(pr:aA->Bool)(n:xs.length<=9223372036854775807):ar Tryz.prog 490 false [.val none (bM .X xs),.fn (ou Tryz.prog (zC (some 2) (aA.enc .X) pr xs))] .one [I (d9 pr xs)]:=by
 refine fO 19 [] Tryz.func490 rfl ?_
 repeat'(first|refine gO ?_|fail)
 (conv=>whnf)
 refine CE (ι:=Nat) (λi=>[(0,.H .one (bM .X xs)),(1,.fv (ou Tryz.prog (zC (some 2) (aA.enc .X) pr xs))),(7,.H .one [I xs.length]),(8,.H .one [I (i:Nat)])]) (λi=>i<=xs.length/\∀(j:Nat)(z:aA),j<i->xs[j]? = some z->pr z=false) (λi=>xs.length - i) 0 ?_ ⟨U0 _,λj z h=>ω⟩ λi e=>?_
 ·exact wB
 obtain⟨e,b⟩:=e;by_cases c:i<xs.length
 ·obtain⟨y,a⟩ : ∃y,xs[i]? = some y:=⟨_,C2 c⟩
  repeat'(first|refine gD ?_|(conv=>whnf);first|with_reducible refine CC (aa a) ?_|refine Fv.mk (k:=.one) (rcs:=[B (pr y)]) ⟨y,W1 a,rfl,rfl,rfl⟩ ?_|refine Bf.P (λl=>?_) (λl=>?_))
  ·exact W0 (λz=>[I z]) (dE a ‹_› b).symm
  (conv=>whnf)
  refine CD (i+1) ⟨ω,λj z h d=>?_⟩ ω ?_
  ·rcases Nat.lt_or_ge j i with g|g
   ·exact b j z g d
   obtain rfl:j=i:=ω
   rw[a]at d;cases d;assumption
  exact wB
 repeat'(first|refine gD ?_|fail)
 exact W0 (λz=>[I z]) (gk ω b).symm
theorem qO(xs:List aA)(pr:aA->Bool)(a:xs.length<=9223372036854775807):ar Tryz.prog 390 false [.val none (bM .X xs),.fn (ou Tryz.prog (zC (some 2) (aA.enc .X) pr xs))] .one [B (xs.any pr)]:=by
 refine fO 9 [] Tryz.func390 rfl ?_
 repeat'(first|refine gO ?_|(conv=>whnf);first|refine C7 (vC xs pr a) ?_)
 exact W0 (λz=>[B z]) (jA pr xs)
theorem vb(r:aA)(page:Int):ar Tryz.prog 391 false [.val (some 2) (aA.enc .X r),.ptr [I page]] .one [B (rj page r)]:=by
 refine fO 17 [] Tryz.func391 rfl ?_
 repeat'(first|refine gO ?_|(conv=>whnf);first|with_reducible refine Bf.D (λa=>?_) (λa=>?_)|refine CM rfl ?_)
 all_goals exact W0 (λz=>[B z]) (by unfold rj;first|(rw[O0 (by assumption:r.At<=page)];simp;done)|(rw[T0 (by assumption:¬r.At<=page)];rfl))
theorem zN(xs:List aA)(page:Int)(a:xs.length<=9223372036854775807):ar Tryz.prog 243 false [.val none (bM .X xs),.val none [I page]] .one [B (xs.any (rj page))]:=by
 refine fO 8 [] Tryz.func243 rfl ?_
 repeat'(first|refine gO ?_|(conv=>whnf);first|refine Cq.mk (zC (some 2) (aA.enc .X) (rj page) xs) (vb default page).has (λL k rcs b=>?_) ?_|refine C7 (qO xs (rj page) a) ?_)
 ·obtain⟨x,-,rfl,rfl,rfl⟩:=b
  exact vb x page
 rfl
end Go.Proofs.YtecefhjnejfheaaGreat.Ab
