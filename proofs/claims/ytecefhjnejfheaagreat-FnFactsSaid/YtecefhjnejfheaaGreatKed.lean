/- The types of the program as the abstract runs see them. Printed by gen_te.py. No condition. -/
import Derived.Test.YtecefhjnejfheaaGreatKec
import Derived.KernelRfl
import Derived.Test.YtecefhjnejfheaaGreatProg
set_option linter.unusedVariables false
set_option linter.unusedSimpArgs false
set_option linter.constructorNameAsVariable false
namespace Go.Proofs.YtecefhjnejfheaaGreat.Ab
open Go.RowKit
def Hq:List (Nat × TI)->Nat->Option TI
 | [],_=>none
 | p::l,t=>bif Nat.beq t p.1 then some p.2 else Hq l t
def P0(P:Program):List (Nat × TI)->Prop
 | []=>True
 | p::l=>bK P p.1 p.2/\P0 P l
theorem Em{P:Program} : ∀{l:List (Nat × TI)},P0 P l->∀t i,Hq l t=some i->bK P t i
 | [],_,t,i,h=>by cases h
 | p::l,b,t,i,h=>by
  simp only[Hq]at h;cases a:Nat.beq t p.1 with
  | true=>
   rw[a]at h;simp only[cond_true,W0]at h;have:=V1 a;subst this h;exact b.1
  | false=>rw[a]at h;exact Em b.2 t i h
def ti3:TI:=⟨1,8,[.v (.int .i64 0)],.sc (.int .i64)⟩
theorem tok3:bK Tryz.prog 3 ti3:=⟨by kernel_rfl,by simp[ti3,aB,Value.oneCell'],⟨Tryz.underlying3,trivial⟩⟩
def ti4:TI:=⟨1,1,[.v (.bool false)],.sc .bool⟩
theorem tok4:bK Tryz.prog 4 ti4:=⟨by kernel_rfl,by simp[ti4,aB,Value.oneCell'],⟨Tryz.underlying4,trivial⟩⟩
def ti2:TI:=⟨1,8,[.v (.int .i64 0)],.sc (.int .i64)⟩
theorem tok2:bK Tryz.prog 2 ti2:=⟨by kernel_rfl,by simp[ti2,aB,Value.oneCell'],⟨Tryz.underlying2,trivial⟩⟩
def ti5:TI:=⟨1,1,[.v (.int .u8 0)],.sc (.int .u8)⟩
theorem tok5:bK Tryz.prog 5 ti5:=⟨by kernel_rfl,by simp[ti5,aB,Value.oneCell'],⟨Tryz.underlying5,trivial⟩⟩
def ti6:TI:=⟨1,1,[.v (.int .u8 0)],.sc (.int .u8)⟩
theorem tok6:bK Tryz.prog 6 ti6:=⟨by kernel_rfl,by simp[ti6,aB,Value.oneCell'],⟨Tryz.underlying6,trivial⟩⟩
def ti7:TI:=⟨4,24,[.v (.int .i64 0),.v (.int .i64 0),.v (.bool false),.v (.int .u8 0)],.st [(0,2),(1,3),(2,4),(3,6)]⟩
theorem tok7:bK Tryz.prog 7 ti7:=⟨by kernel_rfl,by simp[ti7,aB,Value.oneCell'],⟨_,Tryz.underlying7,rfl⟩⟩
def ti8:TI:=⟨4,24,[.v (.int .i64 0),.v (.int .i64 0),.v (.bool false),.v (.int .u8 0)],.st [(0,2),(1,3),(2,4),(3,6)]⟩
theorem tok8:bK Tryz.prog 8 ti8:=⟨by kernel_rfl,by simp[ti8,aB,Value.oneCell'],⟨_,Tryz.underlying8,rfl⟩⟩
def ti9:TI:=⟨1,16,[.v (.string ⟨#[]⟩)],.sc .string⟩
theorem tok9:bK Tryz.prog 9 ti9:=⟨by kernel_rfl,by simp[ti9,aB,Value.oneCell'],⟨Tryz.underlying9,trivial⟩⟩
def ti10:TI:=⟨1,16,[.v (.string ⟨#[]⟩)],.sc .string⟩
theorem tok10:bK Tryz.prog 10 ti10:=⟨by kernel_rfl,by simp[ti10,aB,Value.oneCell'],⟨Tryz.underlying10,trivial⟩⟩
def ti11:TI:=⟨1,16,[.v (.string ⟨#[]⟩)],.sc .string⟩
theorem tok11:bK Tryz.prog 11 ti11:=⟨by kernel_rfl,by simp[ti11,aB,Value.oneCell'],⟨Tryz.underlying11,trivial⟩⟩
def ti12:TI:=⟨1,8,[.v (.int .u64 0)],.sc (.int .u64)⟩
theorem tok12:bK Tryz.prog 12 ti12:=⟨by kernel_rfl,by simp[ti12,aB,Value.oneCell'],⟨Tryz.underlying12,trivial⟩⟩
def ti13:TI:=⟨2,24,[.v (.string ⟨#[]⟩),.v (.int .u64 0)],.st [(0,9),(1,12)]⟩
theorem tok13:bK Tryz.prog 13 ti13:=⟨by kernel_rfl,by simp[ti13,aB,Value.oneCell'],⟨_,Tryz.underlying13,rfl⟩⟩
def ti14:TI:=⟨2,24,[.v (.string ⟨#[]⟩),.v (.int .u64 0)],.st [(0,9),(1,12)]⟩
theorem tok14:bK Tryz.prog 14 ti14:=⟨by kernel_rfl,by simp[ti14,aB,Value.oneCell'],⟨_,Tryz.underlying14,rfl⟩⟩
def ti21:TI:=⟨1,4,[.v (.int .i32 0)],.sc (.int .i32)⟩
theorem tok21:bK Tryz.prog 21 ti21:=⟨by kernel_rfl,by simp[ti21,aB,Value.oneCell'],⟨Tryz.underlying21,trivial⟩⟩
def ti22:TI:=⟨1,24,[.z],.sl 5⟩
theorem tok22:bK Tryz.prog 22 ti22:=⟨by kernel_rfl,by simp[ti22,aB,Value.oneCell'],Tryz.underlying22⟩
def ti24:TI:=⟨1,24,[.z],.sl 33⟩
theorem tok24:bK Tryz.prog 24 ti24:=⟨by kernel_rfl,by simp[ti24,aB,Value.oneCell'],Tryz.underlying24⟩
def ti25:TI:=⟨1,24,[.z],.sl 4⟩
theorem tok25:bK Tryz.prog 25 ti25:=⟨by kernel_rfl,by simp[ti25,aB,Value.oneCell'],Tryz.underlying25⟩
def ti26:TI:=⟨2,48,[.z,.z],.st [(0,24),(1,25)]⟩
theorem tok26:bK Tryz.prog 26 ti26:=⟨by kernel_rfl,by simp[ti26,aB,Value.oneCell'],⟨_,Tryz.underlying26,rfl⟩⟩
def ti27:TI:=⟨2,48,[.z,.z],.st [(0,24),(1,25)]⟩
theorem tok27:bK Tryz.prog 27 ti27:=⟨by kernel_rfl,by simp[ti27,aB,Value.oneCell'],⟨_,Tryz.underlying27,rfl⟩⟩
def ti28:TI:=⟨1,24,[.z],.sl 98⟩
theorem tok28:bK Tryz.prog 28 ti28:=⟨by kernel_rfl,by simp[ti28,aB,Value.oneCell'],Tryz.underlying28⟩
def ti29:TI:=⟨1,24,[.z],.st [(0,28)]⟩
theorem tok29:bK Tryz.prog 29 ti29:=⟨by kernel_rfl,by simp[ti29,aB,Value.oneCell'],⟨_,Tryz.underlying29,rfl⟩⟩
def ti30:TI:=⟨1,24,[.z],.st [(0,28)]⟩
theorem tok30:bK Tryz.prog 30 ti30:=⟨by kernel_rfl,by simp[ti30,aB,Value.oneCell'],⟨_,Tryz.underlying30,rfl⟩⟩
def ti31:TI:=⟨3,72,[.z,.z,.z],.st [(0,27),(2,30)]⟩
theorem tok31:bK Tryz.prog 31 ti31:=⟨by kernel_rfl,by simp[ti31,aB,Value.oneCell'],⟨_,Tryz.underlying31,rfl⟩⟩
def ti32:TI:=⟨3,72,[.z,.z,.z],.st [(0,27),(2,30)]⟩
theorem tok32:bK Tryz.prog 32 ti32:=⟨by kernel_rfl,by simp[ti32,aB,Value.oneCell'],⟨_,Tryz.underlying32,rfl⟩⟩
def ti33:TI:=⟨1,24,[.z],.sl 3⟩
theorem tok33:bK Tryz.prog 33 ti33:=⟨by kernel_rfl,by simp[ti33,aB,Value.oneCell'],Tryz.underlying33⟩
def ti34:TI:=⟨5,104,[.z,.z,.z,.v (.int .i64 0),.z],.st [(0,32),(3,3),(4,33)]⟩
theorem tok34:bK Tryz.prog 34 ti34:=⟨by kernel_rfl,by simp[ti34,aB,Value.oneCell'],⟨_,Tryz.underlying34,rfl⟩⟩
def ti35:TI:=⟨5,104,[.z,.z,.z,.v (.int .i64 0),.z],.st [(0,32),(3,3),(4,33)]⟩
theorem tok35:bK Tryz.prog 35 ti35:=⟨by kernel_rfl,by simp[ti35,aB,Value.oneCell'],⟨_,Tryz.underlying35,rfl⟩⟩
def ti36:TI:=⟨1,24,[.z],.sl 216⟩
theorem tok36:bK Tryz.prog 36 ti36:=⟨by kernel_rfl,by simp[ti36,aB,Value.oneCell'],Tryz.underlying36⟩
def ti37:TI:=⟨1,24,[.z],.sl 167⟩
theorem tok37:bK Tryz.prog 37 ti37:=⟨by kernel_rfl,by simp[ti37,aB,Value.oneCell'],Tryz.underlying37⟩
def ti38:TI:=⟨1,24,[.z],.sl 211⟩
theorem tok38:bK Tryz.prog 38 ti38:=⟨by kernel_rfl,by simp[ti38,aB,Value.oneCell'],Tryz.underlying38⟩
def ti39:TI:=⟨1,24,[.z],.sl 74⟩
theorem tok39:bK Tryz.prog 39 ti39:=⟨by kernel_rfl,by simp[ti39,aB,Value.oneCell'],Tryz.underlying39⟩
def ti40:TI:=⟨1,24,[.z],.sl 152⟩
theorem tok40:bK Tryz.prog 40 ti40:=⟨by kernel_rfl,by simp[ti40,aB,Value.oneCell'],Tryz.underlying40⟩
def ti41:TI:=⟨1,24,[.z],.sl 228⟩
theorem tok41:bK Tryz.prog 41 ti41:=⟨by kernel_rfl,by simp[ti41,aB,Value.oneCell'],Tryz.underlying41⟩
def ti42:TI:=⟨2,48,[.z,.z],.st [(0,41),(1,24)]⟩
theorem tok42:bK Tryz.prog 42 ti42:=⟨by kernel_rfl,by simp[ti42,aB,Value.oneCell'],⟨_,Tryz.underlying42,rfl⟩⟩
def ti43:TI:=⟨2,48,[.z,.z],.st [(0,41),(1,24)]⟩
theorem tok43:bK Tryz.prog 43 ti43:=⟨by kernel_rfl,by simp[ti43,aB,Value.oneCell'],⟨_,Tryz.underlying43,rfl⟩⟩
def ti44:TI:=⟨1,24,[.z],.sl 226⟩
theorem tok44:bK Tryz.prog 44 ti44:=⟨by kernel_rfl,by simp[ti44,aB,Value.oneCell'],Tryz.underlying44⟩
def ti45:TI:=⟨2,32,[.v (.int .i64 0),.z],.st [(0,3),(1,44)]⟩
theorem tok45:bK Tryz.prog 45 ti45:=⟨by kernel_rfl,by simp[ti45,aB,Value.oneCell'],⟨_,Tryz.underlying45,rfl⟩⟩
def ti46:TI:=⟨2,32,[.v (.int .i64 0),.z],.st [(0,3),(1,44)]⟩
theorem tok46:bK Tryz.prog 46 ti46:=⟨by kernel_rfl,by simp[ti46,aB,Value.oneCell'],⟨_,Tryz.underlying46,rfl⟩⟩
def ti47:TI:=⟨3,40,[.v (.int .i64 0),.v (.int .i64 0),.z],.st [(0,3),(1,3),(2,33)]⟩
theorem tok47:bK Tryz.prog 47 ti47:=⟨by kernel_rfl,by simp[ti47,aB,Value.oneCell'],⟨_,Tryz.underlying47,rfl⟩⟩
def ti48:TI:=⟨3,40,[.v (.int .i64 0),.v (.int .i64 0),.z],.st [(0,3),(1,3),(2,33)]⟩
theorem tok48:bK Tryz.prog 48 ti48:=⟨by kernel_rfl,by simp[ti48,aB,Value.oneCell'],⟨_,Tryz.underlying48,rfl⟩⟩
def ti49:TI:=⟨5,56,[.v (.int .i64 0),.v (.int .i64 0),.z,.v (.int .i64 0),.v (.int .i64 0)],.st [(0,48),(3,3),(4,3)]⟩
theorem tok49:bK Tryz.prog 49 ti49:=⟨by kernel_rfl,by simp[ti49,aB,Value.oneCell'],⟨_,Tryz.underlying49,rfl⟩⟩
def ti50:TI:=⟨5,56,[.v (.int .i64 0),.v (.int .i64 0),.z,.v (.int .i64 0),.v (.int .i64 0)],.st [(0,48),(3,3),(4,3)]⟩
theorem tok50:bK Tryz.prog 50 ti50:=⟨by kernel_rfl,by simp[ti50,aB,Value.oneCell'],⟨_,Tryz.underlying50,rfl⟩⟩
def ti51:TI:=⟨24,400,[.z,.z,.z,.v (.int .i64 0),.z,.z,.z,.z,.z,.z,.z,.z,.v (.int .i64 0),.z,.v (.int .i64 0),.v (.int .i64 0),.v (.int .i64 0),.v (.int .i64 0),.v (.bool false),.v (.int .i64 0),.v (.int .i64 0),.z,.v (.int .i64 0),.v (.int .i64 0)],.st [(0,35),(5,36),(6,37),(7,38),(8,39),(9,40),(10,43),(12,46),(14,3),(15,3),(16,3),(17,3),(18,4),(19,50)]⟩
theorem tok51:bK Tryz.prog 51 ti51:=⟨by kernel_rfl,by simp[ti51,aB,Value.oneCell'],⟨_,Tryz.underlying51,rfl⟩⟩
def ti52:TI:=⟨24,400,[.z,.z,.z,.v (.int .i64 0),.z,.z,.z,.z,.z,.z,.z,.z,.v (.int .i64 0),.z,.v (.int .i64 0),.v (.int .i64 0),.v (.int .i64 0),.v (.int .i64 0),.v (.bool false),.v (.int .i64 0),.v (.int .i64 0),.z,.v (.int .i64 0),.v (.int .i64 0)],.st [(0,35),(5,36),(6,37),(7,38),(8,39),(9,40),(10,43),(12,46),(14,3),(15,3),(16,3),(17,3),(18,4),(19,50)]⟩
theorem tok52:bK Tryz.prog 52 ti52:=⟨by kernel_rfl,by simp[ti52,aB,Value.oneCell'],⟨_,Tryz.underlying52,rfl⟩⟩
def ti53:TI:=⟨1,24,[.z],.sl 82⟩
theorem tok53:bK Tryz.prog 53 ti53:=⟨by kernel_rfl,by simp[ti53,aB,Value.oneCell'],Tryz.underlying53⟩
def ti54:TI:=⟨2,32,[.v (.int .i64 0),.z],.st [(0,3),(1,53)]⟩
theorem tok54:bK Tryz.prog 54 ti54:=⟨by kernel_rfl,by simp[ti54,aB,Value.oneCell'],⟨_,Tryz.underlying54,rfl⟩⟩
def ti55:TI:=⟨2,32,[.v (.int .i64 0),.z],.st [(0,3),(1,53)]⟩
theorem tok55:bK Tryz.prog 55 ti55:=⟨by kernel_rfl,by simp[ti55,aB,Value.oneCell'],⟨_,Tryz.underlying55,rfl⟩⟩
def ti56:TI:=⟨26,432,[.z,.z,.z,.v (.int .i64 0),.z,.z,.z,.z,.z,.z,.z,.z,.v (.int .i64 0),.z,.v (.int .i64 0),.v (.int .i64 0),.v (.int .i64 0),.v (.int .i64 0),.v (.bool false),.v (.int .i64 0),.v (.int .i64 0),.z,.v (.int .i64 0),.v (.int .i64 0),.v (.int .i64 0),.z],.st [(0,52),(24,55)]⟩
theorem tok56:bK Tryz.prog 56 ti56:=⟨by kernel_rfl,by simp[ti56,aB,Value.oneCell'],⟨_,Tryz.underlying56,rfl⟩⟩
def ti57:TI:=⟨26,432,[.z,.z,.z,.v (.int .i64 0),.z,.z,.z,.z,.z,.z,.z,.z,.v (.int .i64 0),.z,.v (.int .i64 0),.v (.int .i64 0),.v (.int .i64 0),.v (.int .i64 0),.v (.bool false),.v (.int .i64 0),.v (.int .i64 0),.z,.v (.int .i64 0),.v (.int .i64 0),.v (.int .i64 0),.z],.st [(0,52),(24,55)]⟩
theorem tok57:bK Tryz.prog 57 ti57:=⟨by kernel_rfl,by simp[ti57,aB,Value.oneCell'],⟨_,Tryz.underlying57,rfl⟩⟩
def ti73:TI:=⟨4,32,[.v (.int .i64 0),.v (.int .i64 0),.v (.int .i64 0),.v (.int .i64 0)],.st [(0,3),(1,3),(2,3),(3,3)]⟩
theorem tok73:bK Tryz.prog 73 ti73:=⟨by kernel_rfl,by simp[ti73,aB,Value.oneCell'],⟨_,Tryz.underlying73,rfl⟩⟩
def ti74:TI:=⟨4,32,[.v (.int .i64 0),.v (.int .i64 0),.v (.int .i64 0),.v (.int .i64 0)],.st [(0,3),(1,3),(2,3),(3,3)]⟩
theorem tok74:bK Tryz.prog 74 ti74:=⟨by kernel_rfl,by simp[ti74,aB,Value.oneCell'],⟨_,Tryz.underlying74,rfl⟩⟩
def ti76:TI:=⟨8,64,[.v (.int .i64 0),.v (.int .i64 0),.v (.int .i64 0),.v (.int .i64 0),.v (.int .i64 0),.v (.int .i64 0),.v (.int .i64 0),.v (.int .i64 0)],.st [(0,3),(1,3),(2,3),(3,3),(4,3),(5,3),(6,3),(7,3)]⟩
theorem tok76:bK Tryz.prog 76 ti76:=⟨by kernel_rfl,by simp[ti76,aB,Value.oneCell'],⟨_,Tryz.underlying76,rfl⟩⟩
def ti77:TI:=⟨8,64,[.v (.int .i64 0),.v (.int .i64 0),.v (.int .i64 0),.v (.int .i64 0),.v (.int .i64 0),.v (.int .i64 0),.v (.int .i64 0),.v (.int .i64 0)],.st [(0,3),(1,3),(2,3),(3,3),(4,3),(5,3),(6,3),(7,3)]⟩
theorem tok77:bK Tryz.prog 77 ti77:=⟨by kernel_rfl,by simp[ti77,aB,Value.oneCell'],⟨_,Tryz.underlying77,rfl⟩⟩
def ti79:TI:=⟨1,24,[.z],.sl 84⟩
theorem tok79:bK Tryz.prog 79 ti79:=⟨by kernel_rfl,by simp[ti79,aB,Value.oneCell'],Tryz.underlying79⟩
def ti81:TI:=⟨2,32,[.v (.int .i64 0),.z],.st [(0,3),(1,33)]⟩
theorem tok81:bK Tryz.prog 81 ti81:=⟨by kernel_rfl,by simp[ti81,aB,Value.oneCell'],⟨_,Tryz.underlying81,rfl⟩⟩
def ti82:TI:=⟨2,32,[.v (.int .i64 0),.z],.st [(0,3),(1,33)]⟩
theorem tok82:bK Tryz.prog 82 ti82:=⟨by kernel_rfl,by simp[ti82,aB,Value.oneCell'],⟨_,Tryz.underlying82,rfl⟩⟩
def ti83:TI:=⟨3,24,[.v (.int .i64 0),.v (.int .i64 0),.v (.int .i64 0)],.st [(0,3),(1,3),(2,3)]⟩
theorem tok83:bK Tryz.prog 83 ti83:=⟨by kernel_rfl,by simp[ti83,aB,Value.oneCell'],⟨_,Tryz.underlying83,rfl⟩⟩
def ti84:TI:=⟨3,24,[.v (.int .i64 0),.v (.int .i64 0),.v (.int .i64 0)],.st [(0,3),(1,3),(2,3)]⟩
theorem tok84:bK Tryz.prog 84 ti84:=⟨by kernel_rfl,by simp[ti84,aB,Value.oneCell'],⟨_,Tryz.underlying84,rfl⟩⟩
def ti88:TI:=⟨5,40,[.v (.int .i64 0),.v (.int .i64 0),.v (.int .i64 0),.v (.int .i64 0),.v (.int .i64 0)],.st [(0,3),(1,3),(2,3),(3,3),(4,3)]⟩
theorem tok88:bK Tryz.prog 88 ti88:=⟨by kernel_rfl,by simp[ti88,aB,Value.oneCell'],⟨_,Tryz.underlying88,rfl⟩⟩
def ti89:TI:=⟨5,40,[.v (.int .i64 0),.v (.int .i64 0),.v (.int .i64 0),.v (.int .i64 0),.v (.int .i64 0)],.st [(0,3),(1,3),(2,3),(3,3),(4,3)]⟩
theorem tok89:bK Tryz.prog 89 ti89:=⟨by kernel_rfl,by simp[ti89,aB,Value.oneCell'],⟨_,Tryz.underlying89,rfl⟩⟩
def ti97:TI:=⟨2,16,[.v (.int .i64 0),.v (.int .i64 0)],.st [(0,3),(1,3)]⟩
theorem tok97:bK Tryz.prog 97 ti97:=⟨by kernel_rfl,by simp[ti97,aB,Value.oneCell'],⟨_,Tryz.underlying97,rfl⟩⟩
def ti98:TI:=⟨2,16,[.v (.int .i64 0),.v (.int .i64 0)],.st [(0,3),(1,3)]⟩
theorem tok98:bK Tryz.prog 98 ti98:=⟨by kernel_rfl,by simp[ti98,aB,Value.oneCell'],⟨_,Tryz.underlying98,rfl⟩⟩
def ti101:TI:=⟨2,48,[.z,.z],.st [(0,24),(1,25)]⟩
theorem tok101:bK Tryz.prog 101 ti101:=⟨by kernel_rfl,by simp[ti101,aB,Value.oneCell'],⟨_,Tryz.underlying101,rfl⟩⟩
def ti102:TI:=⟨1,24,[.z],.sl 493⟩
theorem tok102:bK Tryz.prog 102 ti102:=⟨by kernel_rfl,by simp[ti102,aB,Value.oneCell'],Tryz.underlying102⟩
def ti103:TI:=⟨1,24,[.z],.st [(0,102)]⟩
theorem tok103:bK Tryz.prog 103 ti103:=⟨by kernel_rfl,by simp[ti103,aB,Value.oneCell'],⟨_,Tryz.underlying103,rfl⟩⟩
def ti104:TI:=⟨1,24,[.z],.st [(0,102)]⟩
theorem tok104:bK Tryz.prog 104 ti104:=⟨by kernel_rfl,by simp[ti104,aB,Value.oneCell'],⟨_,Tryz.underlying104,rfl⟩⟩
def ti105:TI:=⟨3,72,[.z,.z,.z],.st [(0,101),(2,104)]⟩
theorem tok105:bK Tryz.prog 105 ti105:=⟨by kernel_rfl,by simp[ti105,aB,Value.oneCell'],⟨_,Tryz.underlying105,rfl⟩⟩
def ti106:TI:=⟨3,72,[.z,.z,.z],.st [(0,101),(2,104)]⟩
theorem tok106:bK Tryz.prog 106 ti106:=⟨by kernel_rfl,by simp[ti106,aB,Value.oneCell'],⟨_,Tryz.underlying106,rfl⟩⟩
def ti107:TI:=⟨5,104,[.z,.z,.z,.v (.int .i64 0),.z],.st [(0,106),(3,3),(4,33)]⟩
theorem tok107:bK Tryz.prog 107 ti107:=⟨by kernel_rfl,by simp[ti107,aB,Value.oneCell'],⟨_,Tryz.underlying107,rfl⟩⟩
def ti108:TI:=⟨5,104,[.z,.z,.z,.v (.int .i64 0),.z],.st [(0,106),(3,3),(4,33)]⟩
theorem tok108:bK Tryz.prog 108 ti108:=⟨by kernel_rfl,by simp[ti108,aB,Value.oneCell'],⟨_,Tryz.underlying108,rfl⟩⟩
def ti109:TI:=⟨1,24,[.z],.sl 351⟩
theorem tok109:bK Tryz.prog 109 ti109:=⟨by kernel_rfl,by simp[ti109,aB,Value.oneCell'],Tryz.underlying109⟩
def ti110:TI:=⟨1,24,[.z],.sl 353⟩
theorem tok110:bK Tryz.prog 110 ti110:=⟨by kernel_rfl,by simp[ti110,aB,Value.oneCell'],Tryz.underlying110⟩
def ti111:TI:=⟨1,24,[.z],.sl 355⟩
theorem tok111:bK Tryz.prog 111 ti111:=⟨by kernel_rfl,by simp[ti111,aB,Value.oneCell'],Tryz.underlying111⟩
def ti112:TI:=⟨1,24,[.z],.sl 357⟩
theorem tok112:bK Tryz.prog 112 ti112:=⟨by kernel_rfl,by simp[ti112,aB,Value.oneCell'],Tryz.underlying112⟩
def ti113:TI:=⟨1,24,[.z],.sl 344⟩
theorem tok113:bK Tryz.prog 113 ti113:=⟨by kernel_rfl,by simp[ti113,aB,Value.oneCell'],Tryz.underlying113⟩
def ti114:TI:=⟨1,24,[.z],.sl 431⟩
theorem tok114:bK Tryz.prog 114 ti114:=⟨by kernel_rfl,by simp[ti114,aB,Value.oneCell'],Tryz.underlying114⟩
def ti115:TI:=⟨2,48,[.z,.z],.st [(0,114),(1,24)]⟩
theorem tok115:bK Tryz.prog 115 ti115:=⟨by kernel_rfl,by simp[ti115,aB,Value.oneCell'],⟨_,Tryz.underlying115,rfl⟩⟩
def ti116:TI:=⟨2,48,[.z,.z],.st [(0,114),(1,24)]⟩
theorem tok116:bK Tryz.prog 116 ti116:=⟨by kernel_rfl,by simp[ti116,aB,Value.oneCell'],⟨_,Tryz.underlying116,rfl⟩⟩
def ti117:TI:=⟨1,24,[.z],.sl 436⟩
theorem tok117:bK Tryz.prog 117 ti117:=⟨by kernel_rfl,by simp[ti117,aB,Value.oneCell'],Tryz.underlying117⟩
def ti118:TI:=⟨2,32,[.v (.int .i64 0),.z],.st [(0,3),(1,117)]⟩
theorem tok118:bK Tryz.prog 118 ti118:=⟨by kernel_rfl,by simp[ti118,aB,Value.oneCell'],⟨_,Tryz.underlying118,rfl⟩⟩
def ti119:TI:=⟨2,32,[.v (.int .i64 0),.z],.st [(0,3),(1,117)]⟩
theorem tok119:bK Tryz.prog 119 ti119:=⟨by kernel_rfl,by simp[ti119,aB,Value.oneCell'],⟨_,Tryz.underlying119,rfl⟩⟩
def ti120:TI:=⟨3,40,[.v (.int .i64 0),.v (.int .i64 0),.z],.st [(0,3),(1,3),(2,33)]⟩
theorem tok120:bK Tryz.prog 120 ti120:=⟨by kernel_rfl,by simp[ti120,aB,Value.oneCell'],⟨_,Tryz.underlying120,rfl⟩⟩
def ti121:TI:=⟨5,56,[.v (.int .i64 0),.v (.int .i64 0),.z,.v (.int .i64 0),.v (.int .i64 0)],.st [(0,120),(3,3),(4,3)]⟩
theorem tok121:bK Tryz.prog 121 ti121:=⟨by kernel_rfl,by simp[ti121,aB,Value.oneCell'],⟨_,Tryz.underlying121,rfl⟩⟩
def ti122:TI:=⟨5,56,[.v (.int .i64 0),.v (.int .i64 0),.z,.v (.int .i64 0),.v (.int .i64 0)],.st [(0,120),(3,3),(4,3)]⟩
theorem tok122:bK Tryz.prog 122 ti122:=⟨by kernel_rfl,by simp[ti122,aB,Value.oneCell'],⟨_,Tryz.underlying122,rfl⟩⟩
def ti123:TI:=⟨24,400,[.z,.z,.z,.v (.int .i64 0),.z,.z,.z,.z,.z,.z,.z,.z,.v (.int .i64 0),.z,.v (.int .i64 0),.v (.int .i64 0),.v (.int .i64 0),.v (.int .i64 0),.v (.bool false),.v (.int .i64 0),.v (.int .i64 0),.z,.v (.int .i64 0),.v (.int .i64 0)],.st [(0,108),(5,109),(6,110),(7,111),(8,112),(9,113),(10,116),(12,119),(14,3),(15,3),(16,3),(17,3),(18,4),(19,122)]⟩
theorem tok123:bK Tryz.prog 123 ti123:=⟨by kernel_rfl,by simp[ti123,aB,Value.oneCell'],⟨_,Tryz.underlying123,rfl⟩⟩
def ti124:TI:=⟨24,400,[.z,.z,.z,.v (.int .i64 0),.z,.z,.z,.z,.z,.z,.z,.z,.v (.int .i64 0),.z,.v (.int .i64 0),.v (.int .i64 0),.v (.int .i64 0),.v (.int .i64 0),.v (.bool false),.v (.int .i64 0),.v (.int .i64 0),.z,.v (.int .i64 0),.v (.int .i64 0)],.st [(0,108),(5,109),(6,110),(7,111),(8,112),(9,113),(10,116),(12,119),(14,3),(15,3),(16,3),(17,3),(18,4),(19,122)]⟩
theorem tok124:bK Tryz.prog 124 ti124:=⟨by kernel_rfl,by simp[ti124,aB,Value.oneCell'],⟨_,Tryz.underlying124,rfl⟩⟩
def ti151:TI:=⟨1,24,[.z],.st [(0,24)]⟩
theorem tok151:bK Tryz.prog 151 ti151:=⟨by kernel_rfl,by simp[ti151,aB,Value.oneCell'],⟨_,Tryz.underlying151,rfl⟩⟩
def ti152:TI:=⟨1,24,[.z],.st [(0,24)]⟩
theorem tok152:bK Tryz.prog 152 ti152:=⟨by kernel_rfl,by simp[ti152,aB,Value.oneCell'],⟨_,Tryz.underlying152,rfl⟩⟩
def ti166:TI:=⟨3,24,[.v (.int .i64 0),.v (.int .i64 0),.v (.int .i64 0)],.st [(0,3),(1,3),(2,3)]⟩
theorem tok166:bK Tryz.prog 166 ti166:=⟨by kernel_rfl,by simp[ti166,aB,Value.oneCell'],⟨_,Tryz.underlying166,rfl⟩⟩
def ti167:TI:=⟨3,24,[.v (.int .i64 0),.v (.int .i64 0),.v (.int .i64 0)],.st [(0,3),(1,3),(2,3)]⟩
theorem tok167:bK Tryz.prog 167 ti167:=⟨by kernel_rfl,by simp[ti167,aB,Value.oneCell'],⟨_,Tryz.underlying167,rfl⟩⟩
def ti168:TI:=⟨4,32,[.v (.int .i64 0),.v (.int .i64 0),.v (.int .i64 0),.v (.int .i64 0)],.st [(0,3),(1,3),(2,3),(3,3)]⟩
theorem tok168:bK Tryz.prog 168 ti168:=⟨by kernel_rfl,by simp[ti168,aB,Value.oneCell'],⟨_,Tryz.underlying168,rfl⟩⟩
def ti169:TI:=⟨4,32,[.v (.int .i64 0),.v (.int .i64 0),.v (.int .i64 0),.v (.int .i64 0)],.st [(0,3),(1,3),(2,3),(3,3)]⟩
theorem tok169:bK Tryz.prog 169 ti169:=⟨by kernel_rfl,by simp[ti169,aB,Value.oneCell'],⟨_,Tryz.underlying169,rfl⟩⟩
def ti195:TI:=⟨1,24,[.z],.sl 201⟩
theorem tok195:bK Tryz.prog 195 ti195:=⟨by kernel_rfl,by simp[ti195,aB,Value.oneCell'],Tryz.underlying195⟩
def ti200:TI:=⟨2,16,[.v (.int .i64 0),.v (.int .i64 0)],.st [(0,3),(1,3)]⟩
theorem tok200:bK Tryz.prog 200 ti200:=⟨by kernel_rfl,by simp[ti200,aB,Value.oneCell'],⟨_,Tryz.underlying200,rfl⟩⟩
def ti201:TI:=⟨2,16,[.v (.int .i64 0),.v (.int .i64 0)],.st [(0,3),(1,3)]⟩
theorem tok201:bK Tryz.prog 201 ti201:=⟨by kernel_rfl,by simp[ti201,aB,Value.oneCell'],⟨_,Tryz.underlying201,rfl⟩⟩
def ti210:TI:=⟨3,24,[.v (.int .i64 0),.v (.int .i64 0),.v (.int .i64 0)],.st [(0,3),(1,3),(2,3)]⟩
theorem tok210:bK Tryz.prog 210 ti210:=⟨by kernel_rfl,by simp[ti210,aB,Value.oneCell'],⟨_,Tryz.underlying210,rfl⟩⟩
def ti211:TI:=⟨3,24,[.v (.int .i64 0),.v (.int .i64 0),.v (.int .i64 0)],.st [(0,3),(1,3),(2,3)]⟩
theorem tok211:bK Tryz.prog 211 ti211:=⟨by kernel_rfl,by simp[ti211,aB,Value.oneCell'],⟨_,Tryz.underlying211,rfl⟩⟩
def ti215:TI:=⟨2,16,[.v (.int .i64 0),.v (.int .i64 0)],.st [(0,3),(1,3)]⟩
theorem tok215:bK Tryz.prog 215 ti215:=⟨by kernel_rfl,by simp[ti215,aB,Value.oneCell'],⟨_,Tryz.underlying215,rfl⟩⟩
def ti216:TI:=⟨2,16,[.v (.int .i64 0),.v (.int .i64 0)],.st [(0,3),(1,3)]⟩
theorem tok216:bK Tryz.prog 216 ti216:=⟨by kernel_rfl,by simp[ti216,aB,Value.oneCell'],⟨_,Tryz.underlying216,rfl⟩⟩
def ti221:TI:=⟨2,16,[.v (.int .i64 0),.v (.int .i64 0)],.st [(0,3),(1,3)]⟩
theorem tok221:bK Tryz.prog 221 ti221:=⟨by kernel_rfl,by simp[ti221,aB,Value.oneCell'],⟨_,Tryz.underlying221,rfl⟩⟩
def ti222:TI:=⟨2,16,[.v (.int .i64 0),.v (.int .i64 0)],.st [(0,3),(1,3)]⟩
theorem tok222:bK Tryz.prog 222 ti222:=⟨by kernel_rfl,by simp[ti222,aB,Value.oneCell'],⟨_,Tryz.underlying222,rfl⟩⟩
def ti225:TI:=⟨3,24,[.v (.int .i64 0),.v (.int .i64 0),.v (.int .i64 0)],.st [(0,3),(1,3),(2,3)]⟩
theorem tok225:bK Tryz.prog 225 ti225:=⟨by kernel_rfl,by simp[ti225,aB,Value.oneCell'],⟨_,Tryz.underlying225,rfl⟩⟩
def ti226:TI:=⟨3,24,[.v (.int .i64 0),.v (.int .i64 0),.v (.int .i64 0)],.st [(0,3),(1,3),(2,3)]⟩
theorem tok226:bK Tryz.prog 226 ti226:=⟨by kernel_rfl,by simp[ti226,aB,Value.oneCell'],⟨_,Tryz.underlying226,rfl⟩⟩
def ti228:TI:=⟨1,24,[.z],.sl 222⟩
theorem tok228:bK Tryz.prog 228 ti228:=⟨by kernel_rfl,by simp[ti228,aB,Value.oneCell'],Tryz.underlying228⟩
def ti259:TI:=⟨5,56,[.v (.int .i64 0),.v (.int .i64 0),.v (.int .i64 0),.v (.int .i64 0),.z],.st [(0,3),(1,3),(2,3),(3,3),(4,33)]⟩
theorem tok259:bK Tryz.prog 259 ti259:=⟨by kernel_rfl,by simp[ti259,aB,Value.oneCell'],⟨_,Tryz.underlying259,rfl⟩⟩
def ti260:TI:=⟨5,56,[.v (.int .i64 0),.v (.int .i64 0),.v (.int .i64 0),.v (.int .i64 0),.z],.st [(0,3),(1,3),(2,3),(3,3),(4,33)]⟩
theorem tok260:bK Tryz.prog 260 ti260:=⟨by kernel_rfl,by simp[ti260,aB,Value.oneCell'],⟨_,Tryz.underlying260,rfl⟩⟩
def ti262:TI:=⟨1,24,[.z],.sl 89⟩
theorem tok262:bK Tryz.prog 262 ti262:=⟨by kernel_rfl,by simp[ti262,aB,Value.oneCell'],Tryz.underlying262⟩
def ti264:TI:=⟨3,40,[.z,.v (.int .i64 0),.v (.int .i64 0)],.st [(0,22),(1,3),(2,3)]⟩
theorem tok264:bK Tryz.prog 264 ti264:=⟨by kernel_rfl,by simp[ti264,aB,Value.oneCell'],⟨_,Tryz.underlying264,rfl⟩⟩
def ti265:TI:=⟨3,40,[.z,.v (.int .i64 0),.v (.int .i64 0)],.st [(0,22),(1,3),(2,3)]⟩
theorem tok265:bK Tryz.prog 265 ti265:=⟨by kernel_rfl,by simp[ti265,aB,Value.oneCell'],⟨_,Tryz.underlying265,rfl⟩⟩
def ti288:TI:=⟨1,8,[.v (.map none)],.mp 3 4 (.bool false)⟩
theorem tok288:bK Tryz.prog 288 ti288:=⟨by kernel_rfl,by simp[ti288,aB,Value.oneCell'],⟨Tryz.underlying288,Tryz.underlying3,by kernel_rfl,rfl⟩⟩
def ti295:TI:=⟨1,8,[.v (.map none)],.mp 3 3 (.int .i64 0)⟩
theorem tok295:bK Tryz.prog 295 ti295:=⟨by kernel_rfl,by simp[ti295,aB,Value.oneCell'],⟨Tryz.underlying295,Tryz.underlying3,by kernel_rfl,rfl⟩⟩
def ti309:TI:=⟨1,8,[.v (.int .u64 0)],.sc (.int .u64)⟩
theorem tok309:bK Tryz.prog 309 ti309:=⟨by kernel_rfl,by simp[ti309,aB,Value.oneCell'],⟨Tryz.underlying309,trivial⟩⟩
def ti344:TI:=⟨1,24,[.z],.st [(0,24)]⟩
theorem tok344:bK Tryz.prog 344 ti344:=⟨by kernel_rfl,by simp[ti344,aB,Value.oneCell'],⟨_,Tryz.underlying344,rfl⟩⟩
def ti351:TI:=⟨2,16,[.v (.int .i64 0),.v (.int .i64 0)],.st [(0,3),(1,3)]⟩
theorem tok351:bK Tryz.prog 351 ti351:=⟨by kernel_rfl,by simp[ti351,aB,Value.oneCell'],⟨_,Tryz.underlying351,rfl⟩⟩
def ti353:TI:=⟨3,24,[.v (.int .i64 0),.v (.int .i64 0),.v (.int .i64 0)],.st [(0,3),(1,3),(2,3)]⟩
theorem tok353:bK Tryz.prog 353 ti353:=⟨by kernel_rfl,by simp[ti353,aB,Value.oneCell'],⟨_,Tryz.underlying353,rfl⟩⟩
def ti355:TI:=⟨3,24,[.v (.int .i64 0),.v (.int .i64 0),.v (.int .i64 0)],.st [(0,3),(1,3),(2,3)]⟩
theorem tok355:bK Tryz.prog 355 ti355:=⟨by kernel_rfl,by simp[ti355,aB,Value.oneCell'],⟨_,Tryz.underlying355,rfl⟩⟩
def ti357:TI:=⟨4,32,[.v (.int .i64 0),.v (.int .i64 0),.v (.int .i64 0),.v (.int .i64 0)],.st [(0,3),(1,3),(2,3),(3,3)]⟩
theorem tok357:bK Tryz.prog 357 ti357:=⟨by kernel_rfl,by simp[ti357,aB,Value.oneCell'],⟨_,Tryz.underlying357,rfl⟩⟩
def ti400:TI:=⟨1,8,[.v (.int .i64 0)],.sc (.int .i64)⟩
theorem tok400:bK Tryz.prog 400 ti400:=⟨by kernel_rfl,by simp[ti400,aB,Value.oneCell'],⟨Tryz.underlying400,trivial⟩⟩
def ti407:TI:=⟨1,4,[.v (.int .u32 0)],.sc (.int .u32)⟩
theorem tok407:bK Tryz.prog 407 ti407:=⟨by kernel_rfl,by simp[ti407,aB,Value.oneCell'],⟨Tryz.underlying407,trivial⟩⟩
def ti409:TI:=⟨1,8,[.v (.int .u64 0)],.sc (.int .u64)⟩
theorem tok409:bK Tryz.prog 409 ti409:=⟨by kernel_rfl,by simp[ti409,aB,Value.oneCell'],⟨Tryz.underlying409,trivial⟩⟩
def ti431:TI:=⟨1,24,[.z],.sl 479⟩
theorem tok431:bK Tryz.prog 431 ti431:=⟨by kernel_rfl,by simp[ti431,aB,Value.oneCell'],Tryz.underlying431⟩
def ti436:TI:=⟨3,24,[.v (.int .i64 0),.v (.int .i64 0),.v (.int .i64 0)],.st [(0,3),(1,3),(2,3)]⟩
theorem tok436:bK Tryz.prog 436 ti436:=⟨by kernel_rfl,by simp[ti436,aB,Value.oneCell'],⟨_,Tryz.underlying436,rfl⟩⟩
def ti461:TI:=⟨1,8,[.v (.int .u64 0)],.sc (.int .u64)⟩
theorem tok461:bK Tryz.prog 461 ti461:=⟨by kernel_rfl,by simp[ti461,aB,Value.oneCell'],⟨Tryz.underlying461,trivial⟩⟩
def ti479:TI:=⟨2,16,[.v (.int .i64 0),.v (.int .i64 0)],.st [(0,3),(1,3)]⟩
theorem tok479:bK Tryz.prog 479 ti479:=⟨by kernel_rfl,by simp[ti479,aB,Value.oneCell'],⟨_,Tryz.underlying479,rfl⟩⟩
def ti493:TI:=⟨2,16,[.v (.int .i64 0),.v (.int .i64 0)],.st [(0,3),(1,3)]⟩
theorem tok493:bK Tryz.prog 493 ti493:=⟨by kernel_rfl,by simp[ti493,aB,Value.oneCell'],⟨_,Tryz.underlying493,rfl⟩⟩
def ti510:TI:=⟨0,0,[],.st [(0,509)]⟩
theorem tok510:bK Tryz.prog 510 ti510:=⟨by kernel_rfl,by simp[ti510,aB,Value.oneCell'],⟨_,Tryz.underlying510,rfl⟩⟩
def ti511:TI:=⟨0,0,[],.st [(0,509)]⟩
theorem tok511:bK Tryz.prog 511 ti511:=⟨by kernel_rfl,by simp[ti511,aB,Value.oneCell'],⟨_,Tryz.underlying511,rfl⟩⟩
def ti513:TI:=⟨1,1,[.v (.int .u8 0)],.sc (.int .u8)⟩
theorem tok513:bK Tryz.prog 513 ti513:=⟨by kernel_rfl,by simp[ti513,aB,Value.oneCell'],⟨Tryz.underlying513,trivial⟩⟩
def ti514:TI:=⟨1,1,[.v (.int .u8 0)],.sc (.int .u8)⟩
theorem tok514:bK Tryz.prog 514 ti514:=⟨by kernel_rfl,by simp[ti514,aB,Value.oneCell'],⟨Tryz.underlying514,trivial⟩⟩
def ti517:TI:=⟨1,4,[.v (.int .i32 0)],.sc (.int .i32)⟩
theorem tok517:bK Tryz.prog 517 ti517:=⟨by kernel_rfl,by simp[ti517,aB,Value.oneCell'],⟨Tryz.underlying517,trivial⟩⟩
def ti518:TI:=⟨1,4,[.v (.int .i32 0)],.sc (.int .i32)⟩
theorem tok518:bK Tryz.prog 518 ti518:=⟨by kernel_rfl,by simp[ti518,aB,Value.oneCell'],⟨Tryz.underlying518,trivial⟩⟩
def tab:List (Nat × TI):=[(3,ti3),(4,ti4),(2,ti2),(5,ti5),(6,ti6),(7,ti7),(8,ti8),(9,ti9),(10,ti10),(11,ti11),(12,ti12),(13,ti13),(14,ti14),(21,ti21),(22,ti22),(24,ti24),(25,ti25),(26,ti26),(27,ti27),(28,ti28),(29,ti29),(30,ti30),(31,ti31),(32,ti32),(33,ti33),(34,ti34),(35,ti35),(36,ti36),(37,ti37),(38,ti38),(39,ti39),(40,ti40),(41,ti41),(42,ti42),(43,ti43),(44,ti44),(45,ti45),(46,ti46),(47,ti47),(48,ti48),(49,ti49),(50,ti50),(51,ti51),(52,ti52),(53,ti53),(54,ti54),(55,ti55),(56,ti56),(57,ti57),(73,ti73),(74,ti74),(76,ti76),(77,ti77),(79,ti79),(81,ti81),(82,ti82),(83,ti83),(84,ti84),(88,ti88),(89,ti89),(97,ti97),(98,ti98),(101,ti101),(102,ti102),(103,ti103),(104,ti104),(105,ti105),(106,ti106),(107,ti107),(108,ti108),(109,ti109),(110,ti110),(111,ti111),(112,ti112),(113,ti113),(114,ti114),(115,ti115),(116,ti116),(117,ti117),(118,ti118),(119,ti119),(120,ti120),(121,ti121),(122,ti122),(123,ti123),(124,ti124),(151,ti151),(152,ti152),(166,ti166),(167,ti167),(168,ti168),(169,ti169),(195,ti195),(200,ti200),(201,ti201),(210,ti210),(211,ti211),(215,ti215),(216,ti216),(221,ti221),(222,ti222),(225,ti225),(226,ti226),(228,ti228),(259,ti259),(260,ti260),(262,ti262),(264,ti264),(265,ti265),(288,ti288),(295,ti295),(309,ti309),(344,ti344),(351,ti351),(353,ti353),(355,ti355),(357,ti357),(400,ti400),(407,ti407),(409,ti409),(431,ti431),(436,ti436),(461,ti461),(479,ti479),(493,ti493),(510,ti510),(511,ti511),(513,ti513),(514,ti514),(517,ti517),(518,ti518)]
theorem PH:P0 Tryz.prog tab:=⟨tok3,tok4,tok2,tok5,tok6,tok7,tok8,tok9,tok10,tok11,tok12,tok13,tok14,tok21,tok22,tok24,tok25,tok26,tok27,tok28,tok29,tok30,tok31,tok32,tok33,tok34,tok35,tok36,tok37,tok38,tok39,tok40,tok41,tok42,tok43,tok44,tok45,tok46,tok47,tok48,tok49,tok50,tok51,tok52,tok53,tok54,tok55,tok56,tok57,tok73,tok74,tok76,tok77,tok79,tok81,tok82,tok83,tok84,tok88,tok89,tok97,tok98,tok101,tok102,tok103,tok104,tok105,tok106,tok107,tok108,tok109,tok110,tok111,tok112,tok113,tok114,tok115,tok116,tok117,tok118,tok119,tok120,tok121,tok122,tok123,tok124,tok151,tok152,tok166,tok167,tok168,tok169,tok195,tok200,tok201,tok210,tok211,tok215,tok216,tok221,tok222,tok225,tok226,tok228,tok259,tok260,tok262,tok264,tok265,tok288,tok295,tok309,tok344,tok351,tok353,tok355,tok357,tok400,tok407,tok409,tok431,tok436,tok461,tok479,tok493,tok510,tok511,tok513,tok514,tok517,tok518,trivial⟩
def TE:Nat->Option TI:=Hq tab
theorem yF:∀t i,TE t=some i->bK Tryz.prog t i:=Em PH
def P7:C->Value->C
 | .s .own rows,v=>.s (.tag v) rows
 | c,_=>c
def x6(u:Nat->Value):Nat->List C->List C
 | _,[]=>[]
 | j,c::cs=>P7 c (u j)::x6 u (j+1) cs
def wS(u:Nat->Nat->Value):Nat->List MA->List (Nat × AV)
 | _,[]=>[]
 | i,.val a cs::A=>(i,.H (kQ a) cs)::wS u (i+1) A
 | i,.mut a cs::A=>(i,.H (kQ a) (x6 (u i) 0 cs))::wS u (i+1) A
 | i,.ptr cs::A=>(i,.H .box cs)::wS u (i+1) A
def GQ(p:Nat->Value):Nat->List MA->List (Nat × Value)
 | _,[]=>[]
 | i,.ptr _::A=>(i,p i)::GQ p (i+1) A
 | i,_::A=>GQ p (i+1) A
def EE:Nat->List MA->List (Nat × Nat)->List (Option Nat)
 | i,.val _ _::A,_::pl=>none::EE (i+1) A pl
 | i,.mut _ _::A,p::pl=>some p.1::EE (i+1) A pl
 | i,.ptr _::A,_::pl=>some i::EE (i+1) A pl
 | _,_,_=>[]
def FX:List (Option Nat)->Bool
 | []=>true
 | none::l=>FX l
 | some t::l=>l.all (λx=>match x with|some a=>!Nat.beq t a|none=>true)&&FX l
def sles:List (Option Nat)->List Nat
 | []=>[]
 | none::l=>sles l
 | some t::l=>t::sles l
def QM(v:Value)(c y o:C):Prop:=
 match c with
 | .s .own _=>(match y with|.s (.tag v') rows=>v'=v/\o=.s .own rows|_=>False)
 | .s (.tag _) _=>False
 | .m _=>False
 | .it _ _=>False
 | c=>o=c
def Pk(u:Nat->Value):Nat->List C->List C->List C->Prop
 | _,[],_,o=>o=[]
 | j,c::cs,y::xs,o::os=>QM (u j) c y o/\Pk u (j+1) cs xs os
 | _,_,_,_=>False
def ik(u:Nat->Nat->Value)(F:Nat->AV):Nat->List MA->List (Nat × Nat)->List MA->Prop
 | _,[],_,[]=>True
 | i,.val _ _::A,_::pl,.val _ _::B=>ik u F (i+1) A pl B
 | i,.mut ag cs::A,p::pl,.mut a out::B=>(a=ag/\match F p.1 with|.H _ xs=>Pk (u i) 0 cs (xs.drop p.2) out|_=>False)/\ik u F (i+1) A pl B
 | i,.ptr _::A,_::pl,.ptr out::B=>(match F i with|.H .box xs=>xs=out|_=>False)/\ik u F (i+1) A pl B
 | _,_,_,_=>False
inductive aT(k k':Kd)(cs cs':List C)(Q:Prop):Prop
 |mk_ (h:k=k'/\cs=cs'/\Q)
theorem aT.mk{k b:Kd}{cs a:List C}{Q:Prop}(h1:k=b)(c:cs=a)(d:Q):aT k b cs a Q:=by refine .mk_ ?_;exact⟨h1,c,d⟩
theorem CF:type_of% @aT.mk:=@aT.mk
theorem aT.out{k b:Kd}{cs a:List C}{Q:Prop}(h:aT k b cs a Q):k=b/\cs=a/\Q:=by obtain⟨h⟩:=h;exact h
def P6(TE:Nat->Option TI)(d:List ResultVar)(k:Kd)(rcs:List C)(u:Nat->Nat->Value)(A B:List MA)(a:List (Nat × Nat)):Exit->(Nat->AV)->Prop:=λe F=>
 match e with
 | .normal=>resA TE F d (sles (EE 0 A a)) λb c=>aT (jN b) k c rcs (ik u F 0 A a B)
 | .ret=>resA TE F d (sles (EE 0 A a)) λb c=>aT (jN b) k c rcs (ik u F 0 A a B)
 | _=>False
section
variable{P:Program}{w0 w w1:World}{M S0 S:af}{N:eZ}{φ:Nat->af}{F:Nat->AV}{a:Act}{TE:Nat->Option TI}
theorem eD.tag{Y:af}{c:C}{v:Value}(h:eD w S Y c v):eD w S Y (P7 c v) v:=by
 cases h with
 | nil _ o a B=>cases o with
  | own=>exact .nil _ _ _ rfl
  | _=>exact .nil _ _ _ B
 | own _ o g k n l e u f B D E i p t K L M y=>cases o with
  | own=>exact .own _ _ g k n l e u f rfl D E i p t K L M y
  | X=>exact B.elim
  | tag z=>exact .own _ _ g k n l e u f B D E i p t K L M y
 | v _ x F=>exact .v _ _ F
 | x _ u F=>exact .x _ _ F
 | z _ a=>exact .z _ _
 | X _ g G k n l e u D E i N y=>exact .X _ g G k n l e u D E i N y
 | m _ b d O j t H P J q=>exact .m _ b d O j t H P J q
 | it _ r b since Q d seen j cur left t R H q y J T A=>exact .it _ r b since Q d seen j cur left t R H q y J T A
theorem eD.untag{Y:af}{z v:Value}{rows:List (List C)}(h:eD w S Y (.s (.tag z) rows) v):v=z/\eD w S Y (.s .own rows) v:=by
 cases h with
 | nil _ o a d=>exact⟨Eq.symm d,.nil _ _ _ trivial⟩
 | own _ o g k n e rows u f d i j b c l p q r t=>exact⟨Eq.symm d,.own _ _ g k n e rows u f trivial i j b c l p q r t⟩
theorem nM(u:Nat->Value):∀(j:Nat)(cs:List C),(x6 u j cs).length=cs.length
 | _,[]=>rfl
 | j,c::cs=>by simp[x6,nM u (j+1) cs]
theorem Eo(u:Nat->Value):∀(a:Nat)(cs:List C)(j:Nat),(x6 u a cs)[j]? = (cs[j]?).map λc=>P7 c (u (a+j))
 | _,[],j=>by simp[x6]
 | a,c::cs,0=>by simp[x6]
 | a,c::cs,j+1=>by simp only[x6,List.getElem?_cons_succ];rw[Eo u (a+1) cs j,show a+1+j=a+(j+1) by omega]
theorem cU.tag{Y:af}{cs:List C}{u:Nat->Value}(h:cU w S Y cs u):cU w S Y (x6 u 0 cs) u:=by
 obtain⟨f,e,g,i⟩:=h;refine⟨f,λj c a=>?_,λj a=>g j (by rwa [nM]at a),λj k a b=>i j k (by rwa [nM]at a) (by rwa [nM]at b)⟩;rw[Eo,R6]at a;cases d:cs[j]? with
 | none=>rw[d]at a;cases a
 | some l=>
  rw[d]at a;simp only[Y4,W0]at a;subst a;exact(e j l d).tag
def celF(v:Value)(j:Nat):Value:=v.cells.toList.getD j undef
theorem bS.celF{Y:af}{ag:Option Nat}{cs:List C}{v:Value}(h:bS w S Y ag cs v):cs.length=ag.getD 1/\v=mkv ag (celF v)/\cU w S Y cs (celF v):=by
 obtain⟨b,u,c,d⟩:=h;have g:=oV (ag:=ag) (u:=u) (λe=>by subst e;exact d.one (by simp at b;omega));have f:∀j,j<ag.getD 1->Ab.celF v j=u j:=λj a=>by
  unfold Ab.celF;rw[c,g];simp[List.getD,a]
 exact⟨b,c.trans (io λj a=>(f j a).symm),d.congr λj a=>f j ω⟩
def Pq(u:Nat->Nat->Value)(i:Nat):MA->AV
 | .val a cs=>.H (kQ a) cs
 | .mut a cs=>.H (kQ a) (x6 (u i) 0 cs)
 | .ptr cs=>.H .box cs
theorem zw{u:Nat->Nat->Value} : ∀{A:List MA}{vs:List Value}{V:Nat->af}(i:Nat),MB w S V A vs->∀t,(lay (wS u i A) t=.dead)\/(∃m v,i<=t/\vs[t - i]? = some v/\A[t - i]? = some m/\lay (wS u i A) t=Pq u t m/\pd w S (V (t - i)) m v)
 | [],_,_,i,_,t=>.inl rfl
 | m::A,[],_,i,h,t=>h.elim
 | m::A,v::vs,V,i,h,t=>by
  have c:lay (wS u i (m::A)) t=bif Nat.beq t i then Pq u i m else lay (wS u (i+1) A) t:=by cases m<;>rfl
  rw[c];cases a:Nat.beq t i with
  | true=>
   have:=V1 a;subst this;exact .inr ⟨m,v,W2 _,by simp,by simp,rfl,by rw[Nat.sub_self];exact h.1⟩
  | false=>
   have d:t≠i:=λe=>by subst e;rw[Nat.beq_refl]at a;cases a
   rcases zw (i+1) h.2 t with b|⟨f,g,b,j,k,l,n⟩
   ·exact .inl b
   refine .inr ⟨f,g,ω,?_,?_,l,?_⟩
   ·rw[show t - i=(t - (i+1))+1 by omega];simpa using j
   ·rw[show t - i=(t - (i+1))+1 by omega];simpa using k
   rw[show t - i=(t - (i+1))+1 by omega];exact n
theorem GI:∀{A:List MA}{vs:List Value}{V:Nat->af},MB w S V A vs->A.length=vs.length
 | [],[],_,_=>rfl
 | _::_,_::_,_,h=>by simp[GI h.2]
 | [],_::_,_,h=>h.elim
 | _::_,[],_,h=>h.elim
theorem Hn{p:Nat->Value} : ∀{A:List MA}{i:Nat}{q:Nat × Value},q∈GQ p i A->i<=q.1/\q.1<i+A.length/\q.2=p q.1
 | [],_,_,h=>by simp[GQ]at h
 | m::A,i,q,h=>by
  have a:q∈GQ p (i+1) A->i<=q.1/\q.1<i+(m::A).length/\q.2=p q.1:=λh=>by
   obtain⟨c,d,b⟩:=Hn h;exact⟨ω,by simp;omega,b⟩
  cases m with
  | ptr e=>
   rcases List.mem_cons.1 h with rfl|h
   ·exact⟨W2 _,by simp,rfl⟩
   exact a h
  | val=>exact a h
  | «mut»=>exact a h
theorem G8{p:Nat->Value} : ∀{A:List MA}{i n:Nat}{cs:List C},A[n]? = some (.ptr cs)->(i+n,p (i+n))∈GQ p i A
 | [],_,n,_,h=>by simp at h
 | m::A,i,0,cs,h=>by simp at h;subst h;simp[GQ]
 | m::A,i,n+1,cs,h=>by
  have a:=G8 (p:=p) (i:=i+1) (show A[n]? = some (.ptr cs) by simpa using h);rw[show i+1+n=i+(n+1) by omega]at a;cases m with
  | ptr cs=>exact Z4 _ a
  | val=>exact a
  | «mut»=>exact a
def PL(φ:Nat->af):Option (Option Nat)->af
 | some (some t)=>φ t
 | _=>NO
theorem zT{u:Nat->Value} : ∀{a:Nat}{cs xs b:List C},Pk u a cs xs b->cs.length=b.length/\∀(j:Nat)(c o:C),cs[j]? = some c->b[j]? = some o->∃y,(dU c=true->xs[j]? = some y)/\QM (u (a+j)) c y o
 | _,[],xs,b,h=>by simp only[Pk]at h;subst h;exact⟨rfl,λj c o h=>by simp at h⟩
 | _,_::_,[],_,h=>by simp only[Pk]at h
 | _,_::_,_::_,[],h=>by simp only[Pk]at h
 | a,p::cs,f::xs,q::b,h=>by
  simp only[Pk]at h;obtain⟨g,i⟩:=zT h.2;refine⟨by simp[g],λj c o d e=>?_⟩;cases j with
  | zero=>simp at d e;subst d e;exact⟨f,λ_=>rfl,h.1⟩
  | succ j=>
   obtain⟨y,k,l⟩:=i j c o (by simpa using d) (by simpa using e);exact⟨y,λn=>by simpa using k n,by rw[show a+(j+1)=a+1+j by omega];exact l⟩
theorem M1{S' Y F:af}{u L:Nat->Value}{cs xs G:List C}{off:Nat}(g:bm S w w1)(n:∀b o,S b o->S' b o)(h:cU w S Y cs u)(h':cU w1 S' F xs L)(i:Pk u 0 cs (xs.drop off) G):cU w1 S' F G u:=by
 obtain⟨f,M,U,V⟩:=h;obtain⟨H,r,t,A⟩:=h';obtain⟨W,N⟩:=zT i;refine⟨λj b o=>off+j<xs.length/\H (off+j) b o,λj c q=>?_,λj q b o i=>t _ i.1 b o i.2,λj X q O P b o i p=>A _ _ i.1 p.1 ω b o i.2 p.2⟩;have Q:=(Z1.1 q).1;have k:cs[j]? = some cs[j]:=W1 ω;obtain⟨y,l,a⟩:=N j _ c k q;rw[R6]at a;have d:=M j _ k;generalize cs[j]=B at k a d l;have keep:dU B=false->c=B->eD w1 S' (λb o=>off+j<xs.length/\H (off+j) b o) c (u j):=λR e=>by
  subst e;exact((d.bare (F':=NO) R).keep g (λ_ _ h=>h.elim)).mono n (λ_ _ h=>h.elim)
 cases B with
 | v Z=>exact keep rfl a
 | x=>exact keep rfl a
 | z=>exact keep rfl a
 | m es=>exact a.elim
 | it=>exact a.elim
 | s o J=>
  cases o with
  | X=>exact keep rfl a
  | tag z=>exact a.elim
  | own=>
   have l:=l rfl;rw[List.getElem?_drop]at l;have D:=(Z1.1 l).1;simp only[QM]at a;split at a
   case h_2=>exact a.elim
   rename_i v' E;obtain⟨rfl,rfl⟩:=a;obtain⟨T,K⟩:=(r _ _ l).untag;rw[T]at K;exact K.mono (λ_ _ h=>h) (λb o h=>⟨D,h⟩)
theorem bh.backs{E:World}{S':af}{u:Nat->Nat->Value}(h:bh w0 M S0 N S' φ F a E)(e:bm S w E)(f:∀b o,S b o->S' b o):∀{A:List MA}{g:List (Nat × Nat)}{B:List MA}{vs:List Value}{V:Nat->af}{i:Nat},MB w S V A vs->
  (∀j v,vs[j]? = some v->u (i+j)=celF v)->(∀j v cs,vs[j]? = some v->A[j]? = some (.ptr cs)->tvs a (i+j)=v)->ik u F i A g B->Df E S' (λn=>PL φ (EE i A g)[n]?) B vs
 | [],g,B,vs,V,i,l,q,r,c=>by
  cases vs with
  | cons _ _=>exact l.elim
  | nil=>cases B with
   | nil=>trivial
   | cons _ _=>simp only[ik]at c
 | m::A,[],B,vs,V,i,l,q,r,c=>by cases m<;>simp only[ik]at c
 | m::A,p::g,[],vs,V,i,l,q,r,c=>by cases m<;>simp only[ik]at c
 | m::A,p::g,G::B,[],V,i,l,q,r,c=>l.elim
 | m::A,p::g,G::B,v::vs,V,i,l,q,r,c=>by
  have next:ik u F (i+1) A g B->Df E S' (λn=>PL φ (EE (i+1) A g)[n]?) B vs:=λc=>
   bh.backs h e f l.2 (λj v H=>by rw[show i+1+j=i+(j+1) by omega];exact q (j+1) v (by simpa using H))
    (λj v cs H U=>by rw[show i+1+j=i+(j+1) by omega];exact r (j+1) v cs (by simpa using H) (by simpa using U)) c
  cases m with
  | val W cs=>
   cases G with
   | val C X=>simp only[ik]at c;exact⟨trivial,next c⟩
   | ptr=>simp only[ik]at c
   | «mut»=>simp only[ik]at c
  | «mut» W cs=>
   cases G with
   | val=>simp only[ik]at c
   | ptr=>simp only[ik]at c
   | «mut» C out=>
    simp only[ik]at c;obtain⟨⟨rfl,d⟩,J⟩:=c;refine⟨?_,next J⟩;have D:=bS.celF (show bS w S (V 0) C cs v from l.1);have K:u i=celF v:=q 0 v (by simp);have t:=h.slot p.1;cases y:F p.1 with
    | H k xs=>
     rw[y]at d t;simp only at d;rw[K]at d;obtain⟨P,Y,Q,L,R,T,O⟩:=t;refine⟨by rw[<-(zT d).1];exact D.1,celF v,D.2.1,?_⟩;exact(M1 e f D.2.2 O d).mono (λ_ _ h=>h) (λb o c=>by simpa[EE,PL] using L b o c)
    | _=>rw[y]at d;exact d.elim
  | ptr cs=>
   cases G with
   | val=>simp only[ik]at c
   | «mut»=>simp only[ik]at c
   | ptr out=>
    simp only[ik]at c;refine⟨?_,next c.2⟩;have D:tvs a i=v:=r 0 v cs (by simp) (by simp);have t:=h.slot i;cases y:F i with
    | H k xs=>
     cases k with
     | box=>
      rw[y]at c t;have:=c.1;simp only at this;subst this;rw[D]at t;obtain⟨P,Y,Q,L,R,T,O⟩:=t;exact⟨P,Y,λb o c=>by simpa[EE,PL] using Q b o c,λb o c=>by simpa[EE,PL] using L b o c,R,T,O⟩
     | _=>rw[y]at c;exact c.1.elim
    | _=>rw[y]at c;exact c.1.elim
theorem sY:∀{l:List (Option Nat)},FX l=true->∀(i a t c:Nat),i≠a->l[i]? = some (some t)->l[a]? = some (some c)->t≠c
 | [],_,i,a,t,c,_,h,_=>by simp at h
 | none::l,b,i,a,t,c,f,h,d=>by
  cases i with
  | zero=>simp at h
  | succ i=>cases a with
   | zero=>simp at d
   | succ a=>exact sY (l:=l) b i a t c ω (by simpa using h) (by simpa using d)
 | some j::l,b,i,a,t,c,f,h,d=>by
  simp only[FX,I0]at b;have g:∀(n s:Nat),l[n]? = some (some s)->j≠s:=λn s k e=>by
   have:=W3.1 b.1 _ (U1 k);simp only[Bool.not_eq_true']at this;rw[e,Nat.beq_refl]at this;cases this
  cases i with
  | zero=>
   simp at h;subst h;cases a with
   | zero=>exact absurd rfl f
   | succ a=>exact g a c (by simpa using d)
  | succ i=>cases a with
   | zero=>simp at d;subst d;exact λe=>g i t (by simpa using h) e.symm
   | succ a=>exact sY b.2 i a t c ω (by simpa using h) (by simpa using d)
theorem xh:∀{l:List (Option Nat)}{i t:Nat},l[i]? = some (some t)->t∈sles l
 | [],i,t,h=>by simp at h
 | none::l,i,t,h=>by
  cases i with
  | zero=>simp at h
  | succ i=>exact xh (l:=l) (i:=i) (by simpa using h)
 | some a::l,i,t,h=>by
  cases i with
  | zero=>simp at h;subst h;simp[sles]
  | succ i=>exact Z4 _ (xh (l:=l) (i:=i) (by simpa using h))
theorem xk{φ:Nat->af}{x:Option (Option Nat)}{b o:Nat}(h:PL φ x b o):∃t,x=some (some t)/\φ t b o:=by
 match x,h with
 | some (some t),h=>exact⟨t,rfl,h⟩
 | some none,h=>exact h.elim
 | none,h=>exact h.elim
theorem Hw{f : Nat}{E : Func}{c : Code}{sh : Bool}{A B : List MA}{k : Kd}{rcs : List C}{mo : List (Nat × List Nat)}{n : Nat}(Q : List (Nat × Nat))(hTE : ∀t i, TE t = some i -> bK P t i)(hf : P.funcs[f]? = some E)(hn : (E.name == "runtime.NumGoroutine") = false)(a:E.body=some c){ck:Nat->Array Oper->Bool}{D:eZ->Nat->Array Oper->((Nat->AV)->Prop)->(Nat->AV)->Prop}(hD:∀N,va P N ck (D N))(hc:fV ck c=true)(hN:A.length+(E.ntmps - A.length)=n)(hok:FX (EE 0 A Q)=true)(hsh:sh=true\/gR rcs)(hp:∀(u:Nat->Nat->Value)(p:Nat->Value),aw P TE ⟨n,GQ p 0 A,mo⟩ (D ⟨n,GQ p 0 A,mo⟩) c (P6 TE E.results.toList k rcs u A B Q) (lay (wS u 0 A))):aS P f sh A B k rcs:=by
 refine⟨⟨E,hf,hn,by rw[a];rfl⟩,λw S V r hS hV hVd hA=>?_⟩;have hlen:=GI hA;refine calls_of_wp hf a ?_
 let u:Nat->Nat->Value:=λi=>celF (r.getD i undef)
 let p:Nat->Value:=λi=>r.getD i undef
 have htv:∀t v,r[t]? = some v->tvs {tmps:=r.toArray++Array.replicate (E.ntmps - r.toArray.size) undef,defers:=[]} t=v:=λt v l=>by
  have H:=(Z1.1 l).1;simp only[tvs,C6];rw[Array.getElem?_append_left (by simpa using H)];simp only[List.getElem?_toArray];rw[l];rfl
 have hst:St w (λb o=>∃i,V i b o) S ⟨n,GQ p 0 A,mo⟩ (lay (wS u 0 A)) {tmps:=r.toArray++Array.replicate (E.ntmps - r.toArray.size) undef,defers:=[]} w:=by
  refine⟨S,V,λt=>?_,hVd,λt b o h=>(hV t b o h).2,λt b o h=>⟨(hV t b o h).1,.inr ⟨t,h⟩⟩,λ_ _ h=>h,λb o h=>⟨hS b o h,.inl h⟩,CY _ _,by simp;omega,rfl,λq hq=>?_⟩
  ·rcases zw (u:=u) 0 hA t with J|⟨m,v,-,l,h2',G,U⟩
   ·rw[J];trivial
   rw[G];rw[Nat.sub_zero]at l U;rw[htv t v l];have hu:u t=celF v:=by show celF (r.getD t undef)=_;rw[List.getD,l];rfl
   cases m with
   | val O K=>exact(bS.mono (show bS w S NO O K v from U) (λ_ _ h=>h) (λ_ _ h=>h.elim)).slot
   | «mut» O K=>
    obtain⟨e1,e2,e3⟩:=bS.celF (show bS w S (V t) O K v from U);refine bS.slot ⟨by rw[nM];exact e1,celF v,e2,?_⟩;rw[hu];exact e3.tag
   | ptr K=>exact U
  obtain⟨-,J,l⟩:=Hn hq;rw[l];have H:q.1<r.length:=ω
  refine htv _ _ ?_;show r[q.1]? = some (r.getD q.1 undef);rw[List.getD,W1 H];rfl
 refine iw hTE (hD _) c hc _ _ _ _ w (hp u p) hst λe F' W y he hs'=>?_
 obtain⟨S',φ',h⟩:=hs';have fin:resA TE F' E.results.toList (sles (EE 0 A Q)) (λsh K=>aT (jN sh) k K rcs (ik u F' 0 A Q B))->W.defers=[]/\∃v,(results E W.tmps).run P y=.ok v y/\(∃v',Ending.returned v=.returned v'/\bP (λb o=>∃i,V i b o) w y/\∃(X:af)(Z:Nat->af)(S1:af),
     (∀b o,X b o->(∃i,V i b o)\/(b<y.heap.size/\w.heap.size<=b))/\(∀i b o,Z i b o->(∃i,V i b o)\/(b<y.heap.size/\w.heap.size<=b))/\
     (∀b o,S1 b o->(sh=true/\S b o)\/(∃i,V i b o)\/(b<y.heap.size/\w.heap.size<=b))/\
     (∀i i',i≠i'->∀b o,Z i b o->¬Z i' b o)/\(∀i b o,X b o->¬Z i b o)/\(∀b o,X b o->¬S1 b o)/\(∀i b o,Z i b o->¬S1 b o)/\
     fU y NO k rcs.length v'/\cU y S1 X rcs (cb y k v')/\Df y (λb o=>S b o\/S1 b o) Z B r):=by
  intro hr;obtain⟨shs,K,d,u',hfin,hrun,M,hln,hL,hcells,L,hrow⟩:=h.resA hTE hr;obtain⟨rfl,rfl,R⟩:=hfin.out;refine⟨h.defers,?_⟩;have T:(results E W.tmps).run P y=.ok (if h:d.toArray.size=1 then d.toArray[0] else .tuple d.toArray) y:=by
   have e:results E W.tmps=(do let r <-E.results.mapM (DO W.tmps);pure (if h:r.size=1 then r[0] else .tuple r)):=by
    unfold results
    congr 1
   rw[e,<-Array.toArray_toList (xs:=E.results),List.mapM_toArray];simp only[Sem.run_bind,Sem.run_map,hrun,Result.andThen_ok,Sem.run_pure]
  have hex:∀t b o,φ' t b o->(∃i,V i b o)\/(b<y.heap.size/\w.heap.size<=b):=λt b o a=>(h.ex t b o a).2.elim (λh'=>.inr ⟨(h.ex t b o a).1,h'⟩) .inl
  have hsameS:bm S w y:=λb o a=>by
   have H:=hS b o a;exact⟨h.old.cel b o H (λ⟨i,hi⟩=>(hV i b o hi).2 a),h.old.fro b o H (λ⟨i,hi⟩=>(hV i b o hi).2 a)⟩
  have hm:=h.backs (u:=u) hsameS h.sub hA (λj v hj=>by show celF (r.getD (0+j) undef)=_;rw[R6,List.getD,hj];rfl) (λj v K hj hc=>by
    have:=h.par _ (G8 (p:=p) (i:=0) hc);rw[this];show r.getD (0+j) undef=v;rw[R6,List.getD,hj];rfl) R
  refine⟨_,T,_,rfl,h.old,λb o=>∃t,t∉sles (EE 0 A Q)/\φ' t b o,λi=>PL φ' (EE 0 A Q)[i]?,λb o=>(sh=true/\S' b o)\/(S' b o/\((∃i,V i b o)\/w.heap.size<=b)),λb o ⟨t,_,a⟩=>hex t b o a,λi b o a=>?_,λb o a=>?_,λi i' hne b o a g=>?_,λi b o ⟨t,ht,a⟩ g=>?_,λb o ⟨t,_,a⟩ g=>h.disS t b o a (g.elim (·.2) (·.1)),λi b o a g=>?_,?_⟩
  ·obtain⟨t,-,a⟩:=xk a
   exact hex t b o a
  ·rcases a with⟨J,l⟩|⟨J,l⟩
   ·rcases(h.sup b o l).2 with G|G|G
    ·exact .inl ⟨J,G⟩
    ·exact .inr (.inr ⟨(h.sup b o l).1,G⟩)
    exact .inr (.inl G)
   rcases l with l|l
   ·exact .inr (.inl l)
   exact .inr (.inr ⟨(h.sup b o J).1,l⟩)
  ·obtain⟨t,e1,a⟩:=xk a
   obtain⟨t',e2,g⟩:=xk g;exact h.dis t t' (sY hok i i' t t' hne e1 e2) b o a g
  ·obtain⟨t',e2,g⟩:=xk g
   exact h.dis t t' (λe=>ht (by rw[e];exact xh e2)) b o a g
  ·obtain⟨t,-,a⟩:=xk a
   exact h.disS t b o a (g.elim (·.2) (·.1))
  have hk:fU y NO (jN shs) K.length (if h:d.toArray.size=1 then d.toArray[0] else .tuple d.toArray)/\cU y S' (λb o=>∃t,t∉sles (EE 0 A Q)/\φ' t b o) K (cb y (jN shs) (if h:d.toArray.size=1 then d.toArray[0] else .tuple d.toArray)):=by
   match shs,M,L,hL with
   | [],M,_,hL=>
    cases d with
    | cons _ _=>exact M.elim
    | nil=>
     have:K=[]:=W6 (by simpa[pC] using hL.symm);subst this;exact⟨⟨_,rfl,trivial,rfl⟩,cU.nil _ _ _ _⟩
   | [O],_,L,_=>
    obtain⟨v,rfl,hv⟩:=L O rfl;have:=hv.slot (F:=F') (tv:=tvs W);obtain⟨X1,Y,J,l,G,U,h5⟩:=this;refine⟨?_,h5.mono (λ_ _ h=>h) l⟩;cases O<;>exact U
   | O::ag2::sh,M,_,hL=>
    have hsz:¬d.toArray.size=1:=by
     match d,M with
     | [],M=>simp
     | [v],M=>cases O<;>cases ag2<;>exact M.2.elim
     | _::_::_,_=>simp
    rw[dif_neg hsz];refine⟨⟨_,rfl,M,hL⟩,hrow.congr λj hj=>?_⟩;simp only[cb,jN,lR,hcells];simp[List.getD,hj]
  refine⟨hk.1,?_,hm.mono λb o a=>?_⟩
  ·rcases hsh with J|J
   ·exact hk.2.mono (λb o a=>.inl ⟨J,a⟩) (λ_ _ h=>h)
   exact(hk.2.fresh J).mono (λ_ _ h=>h.elim) (λ_ _ h=>h)
  rcases(h.sup b o a).2 with G|G|G
  ·exact .inl G
  ·exact .inr (.inr ⟨a,.inr G⟩)
  exact .inr (.inr ⟨a,.inl G⟩)
 cases e with
 | normal=>exact fin he
 | ret=>exact fin he
 | _=>exact he.elim
end
abbrev I(z:Int):C:=.v (.int .i64 z)
abbrev B(b:Bool):C:=.v (.bool b)
def rI(_:dK)(z:Int):List C:=[I z]
def rB(_:dK)(b:Bool):List C:=[B b]
theorem pn(z:Int):gR (rI .own z):=⟨trivial,trivial⟩
theorem E8(b:Bool):gR (rB .own b):=⟨trivial,trivial⟩
def mq(z:Int):Prop:=-9223372036854775808<=z/\z<=9223372036854775807
def Ra(_:Bool):Prop:=True
theorem qh : Tryz.prog.follows .mixedOrders=true:=by kernel_rfl
theorem Qx{n f : Nat}{mo : List (Nat × List Nat)}{a : Func}{c : Code}{sh : Bool}{A : List RA}{k : Kd}{rcs : List C}(d : Tryz.prog.funcs[f]? = some a)(e : (a.name == "runtime.NumGoroutine") = false)(g : a.body = some c){tb : List (Nat × Nat × List Nat)}(h : fV (my tb) c = true)(i:A.length+(a.ntmps - A.length)=n)(b:sh=true\/gR rcs)(j:aw Tryz.prog TE ⟨n,[],mo⟩ (DF Tryz.prog TE ⟨n,[],mo⟩ tb) c (MQ TE a.results.toList k rcs) (lay (uv 0 A))):ar Tryz.prog f sh A k rcs:=
 Je yF d e g (qk yF qh ⟨n,[],mo⟩ tb) h i rfl b j
theorem Q7{n f : Nat}{mo : List (Nat × List Nat)}{a : Func}{c : Code}{sh : Bool}{A B : List MA}{k : Kd}{rcs : List C}(b : List (Nat × Nat))(g : Tryz.prog.funcs[f]? = some a)(h : (a.name == "runtime.NumGoroutine") = false)(i : a.body = some c){tb : List (Nat × Nat × List Nat)}(j : fV (my tb) c = true)(l:A.length+(a.ntmps - A.length)=n)(d:FX (EE 0 A b)=true)(e:sh=true\/gR rcs)(o:∀(u:Nat->Nat->Value)(p:Nat->Value),aw Tryz.prog TE ⟨n,GQ p 0 A,mo⟩ (DF Tryz.prog TE ⟨n,GQ p 0 A,mo⟩ tb) c (P6 TE a.results.toList k rcs u A B b) (lay (wS u 0 A))):aS Tryz.prog f sh A B k rcs:=
 Hw b yF g h i (λN=>qk yF qh N tb) j l d e o
theorem Qn{n f t : Nat}{mo : List (Nat × List Nat)}{a : Func}{c : Code}{A : List RA}{rcs : List C}(b : Tryz.prog.funcs[f]? = some a)(d : (a.name == "runtime.NumGoroutine") = false)(e : a.body = some c){tb : List (Nat × Nat × List Nat)}(g : fV (my tb) c = true)(h:A.length+(a.ntmps - A.length)=n)(i:a.results = #[.tmp t])(j:aw Tryz.prog TE ⟨n,[],mo⟩ (DF Tryz.prog TE ⟨n,[],mo⟩ tb) c (Q9 t rcs) (lay (uv 0 A))):pM Tryz.prog f true A .box rcs:=
 Jh yF b d e (qk yF qh ⟨n,[],mo⟩ tb) g h rfl i j
theorem eE{x:Int}(h1 : -9223372036854775808<=x)(a:x<=9223372036854775807):IntKind.i64.wrap x=x:=IntWalk.i64_in x (by constructor<;>assumption)
def JL:RA->RA->Prop
 | .val ag cs,.val ag' cs'=>ag=ag'/\cs=cs'
 | .ptr cs,.ptr cs'=>cs=cs'
 | A,a=>A=a
theorem JL.eq{A a:RA}(h:JL A a):A=a:=by
 unfold JL at h;split at h
 ·obtain⟨rfl,rfl⟩:=h;rfl
 ·rw[h]
 exact h
def De:List RA->List RA->Prop
 | [],[]=>True
 | A::As,B::Bs=>JL A B/\De As Bs
 | _,_=>False
theorem De.eq:∀{A a:List RA},De A a->A=a
 | [],[],_=>rfl
 | A::As,B::Bs,h=>by rw[JL.eq h.1,De.eq h.2]
 | [],_::_,h=>h.elim
 | _::_,[],h=>h.elim
theorem Cl.eq{P:Program}{f:Nat}{b:Bool}{A a:List RA}{K:AV->Prop}{k:Kd}{rcs:List C}(h:ar P f false a k rcs)(c:De A a)(d:K (.H k rcs)):Cl P f b A K:=by rw[c.eq];exact C7 h d
theorem CG:type_of% @Cl.eq:=@Cl.eq
theorem yM{n b:Nat}(h:n<=1048576)(a:b<=1000):n*b<=140737488355328:=V4 (Nat.mul_le_mul h a) (by decide)
theorem Bf.NB{a b:Bool}{X Y:Prop}(h1:a≠b->X)(c:a=b->Y):Bf (a != b) X Y:=by
 refine Bf.P (λh=>h1 ?_) (λh=>c ?_)
 ·simpa using h
 simpa using h
theorem Rw.one{a:List C}{off i k j:Nat}{K:List C->Nat->Prop}{o:dK}{rows:List (List C)}{r:List C}(h1:a[off]? = some (.s o rows))(b:rows[i]? = some r)(c:r.length=k)(d:K r j):Rw a off [(i,k,j)] K:=
 Rw.mk (r:=r) (j:=j) (by simp[bW,h1,b,c]) d
theorem CH:type_of% @Rw.one:=@Rw.one
section
variable{α:Type}{A B:List α}
end
theorem aa{α β:Type}{f:α->β}{l:List α}{k:Nat}{x:α}(h:l[k]? = some x):(l.map f)[k]? = some (f x):=by simp[h]
def aG(o:dK)(x:List Int):List C:=[.s o (x.map (rI o))]
theorem eN(x:List Int):dP (aG .own x)=aG .X x:=by simp[dP,aG,rI,dP]
theorem bV(x:List Int):gR (aG .own x):=⟨⟨.inl λh=>(by cases h),bf _ _ λy _=>pn y⟩,trivial⟩
def iX(x:List Int):Prop:=x.length<=9223372036854775807/\∀y∈x,mq y
def qQ(x:List Int):Prop:=x.length<=1048576
def lH(o:dK)(x:List (List Int)):List C:=[.s o (x.map (aG o))]
theorem Qi(x:List (List Int)):dP (lH .own x)=lH .X x:=by simp[dP,lH,eN,<-bZ,T5]
def AS(x:List (List Int)):Prop:=x.length<=9223372036854775807/\∀y∈x,iX y
def wT(x:List (List Int)):Prop:=x.length<=1048576/\∀y∈x,qQ y
def A9(o:dK)(x:List Bool):List C:=[.s o (x.map (rB o))]
def NV(x:List Bool):Prop:=x.length<=9223372036854775807/\∀y∈x,Ra y
def KZ(x:List Bool):Prop:=x.length<=1048576
structure bo where
 S:List (List Int)
 a9:List Bool
deriving DecidableEq,Inhabited
def bo.enc(o:dK)(x:bo):List C:=[.s o (x.S.map (aG o)),.s o (x.a9.map (rB o))]
theorem bo.enc_fz(x:bo):dP (bo.enc .own x)=bo.enc .X x:=by simp[dP,bo.enc,rB,eN,<-bZ,T5]
theorem bo.enc_fr(x:bo):gR (bo.enc .own x):=⟨⟨.inl λh=>(by cases h),bf _ _ λy _=>bV y⟩,⟨.inl λh=>(by cases h),bf _ _ λy _=>E8 y⟩,trivial⟩
def bo.wf(x:bo):Prop:=AS x.S/\NV x.a9
def bo.sml(x:bo):Prop:=wT x.S/\KZ x.a9
structure bi where
 j:Int
 e:Int
deriving DecidableEq,Inhabited
def bi.enc(o:dK)(x:bi):List C:=[I x.j,I x.e]
theorem bi.enc_fz(x:bi):dP (bi.enc .own x)=bi.enc .X x:=by simp[dP,bi.enc]
theorem bi.enc_fr(x:bi):gR (bi.enc .own x):=⟨trivial,trivial,trivial⟩
def bi.wf(x:bi):Prop:=mq x.j/\mq x.e
def bi.sml(_:bi):Prop:=True
def B0(o:dK)(x:List bi):List C:=[.s o (x.map (bi.enc o))]
def J6(x:List bi):Prop:=x.length<=9223372036854775807/\∀y∈x,bi.wf y
def Fx(x:List bi):Prop:=x.length<=1048576/\∀y∈x,bi.sml y
structure aH where
 J:List bi
deriving DecidableEq,Inhabited
def aH.enc(o:dK)(x:aH):List C:=[.s o (x.J.map (bi.enc o))]
theorem aH.enc_fz(x:aH):dP (aH.enc .own x)=aH.enc .X x:=by simp[dP,aH.enc,bi.enc_fz,<-bZ,T5]
theorem CZ:type_of% @aH.enc_fz:=@aH.enc_fz
theorem aH.enc_fr(x:aH):gR (aH.enc .own x):=⟨⟨.inl λh=>(by cases h),bf _ _ λy _=>bi.enc_fr y⟩,trivial⟩
def aH.wf(x:aH):Prop:=J6 x.J
def aH.sml(x:aH):Prop:=Fx x.J
structure aU where
 V:bo
 R:aH
deriving DecidableEq,Inhabited
def aU.enc(o:dK)(x:aU):List C:=[.s o (x.V.S.map (aG o)),.s o (x.V.a9.map (rB o)),.s o (x.R.J.map (bi.enc o))]
theorem aU.enc_fz(x:aU):dP (aU.enc .own x)=aU.enc .X x:=by simp[dP,aU.enc,bi.enc_fz,rB,eN,<-bZ,T5]
theorem aU.enc_fr(x:aU):gR (aU.enc .own x):=⟨⟨.inl λh=>(by cases h),bf _ _ λy _=>bV y⟩,⟨.inl λh=>(by cases h),bf _ _ λy _=>E8 y⟩,⟨.inl λh=>(by cases h),bf _ _ λy _=>bi.enc_fr y⟩,trivial⟩
def aU.wf(x:aU):Prop:=bo.wf x.V/\aH.wf x.R
def aU.sml(x:aU):Prop:=bo.sml x.V/\aH.sml x.R
structure ah where
 F:aU
 Calls:Int
 y:List Int
deriving DecidableEq,Inhabited
def ah.enc(o:dK)(x:ah):List C:=[.s o (x.F.V.S.map (aG o)),.s o (x.F.V.a9.map (rB o)),.s o (x.F.R.J.map (bi.enc o)),I x.Calls,.s o (x.y.map (rI o))]
theorem ah.enc_fz(x:ah):dP (ah.enc .own x)=ah.enc .X x:=by simp[dP,ah.enc,bi.enc_fz,rB,rI,eN,<-bZ,T5]
theorem CQ:type_of% @ah.enc_fz:=@ah.enc_fz
theorem ah.enc_fr(x:ah):gR (ah.enc .own x):=⟨⟨.inl λh=>(by cases h),bf _ _ λy _=>bV y⟩,⟨.inl λh=>(by cases h),bf _ _ λy _=>E8 y⟩,⟨.inl λh=>(by cases h),bf _ _ λy _=>bi.enc_fr y⟩,trivial,⟨.inl λh=>(by cases h),bf _ _ λy _=>pn y⟩,trivial⟩
def ah.wf(x:ah):Prop:=aU.wf x.F/\mq x.Calls/\iX x.y
def ah.sml(x:ah):Prop:=aU.sml x.F/\qQ x.y
structure aA where
 At:Int
 b0:Int
deriving DecidableEq,Inhabited
def aA.enc(o:dK)(x:aA):List C:=[I x.At,I x.b0]
theorem aA.enc_fz(x:aA):dP (aA.enc .own x)=aA.enc .X x:=by simp[dP,aA.enc]
theorem aA.enc_fr(x:aA):gR (aA.enc .own x):=⟨trivial,trivial,trivial⟩
def aA.wf(x:aA):Prop:=mq x.At/\mq x.b0
def aA.sml(_:aA):Prop:=True
def bO(o:dK)(x:List aA):List C:=[.s o (x.map (aA.enc o))]
theorem dZ(x:List aA):dP (bO .own x)=bO .X x:=by simp[dP,bO,aA.enc_fz,<-bZ,T5]
theorem oB(x:List aA):gR (bO .own x):=⟨⟨.inl λh=>(by cases h),bf _ _ λy _=>aA.enc_fr y⟩,trivial⟩
def H4(x:List aA):Prop:=x.length<=9223372036854775807/\∀y∈x,aA.wf y
def iT(x:List aA):Prop:=x.length<=1048576/\∀y∈x,aA.sml y
structure ax where
 Q:Int
 b:Int
 b1:Int
deriving DecidableEq,Inhabited
def ax.enc(o:dK)(x:ax):List C:=[I x.Q,I x.b,I x.b1]
theorem ax.enc_fz(x:ax):dP (ax.enc .own x)=ax.enc .X x:=by simp[dP,ax.enc]
theorem ax.enc_fr(x:ax):gR (ax.enc .own x):=⟨trivial,trivial,trivial,trivial⟩
def ax.wf(x:ax):Prop:=mq x.Q/\mq x.b/\mq x.b1
def ax.sml(_:ax):Prop:=True
def cz(o:dK)(x:List ax):List C:=[.s o (x.map (ax.enc o))]
theorem wM(x:List ax):dP (cz .own x)=cz .X x:=by simp[dP,cz,ax.enc_fz,<-bZ,T5]
theorem Fc(x:List ax):gR (cz .own x):=⟨⟨.inl λh=>(by cases h),bf _ _ λy _=>ax.enc_fr y⟩,trivial⟩
def Lt(x:List ax):Prop:=x.length<=9223372036854775807/\∀y∈x,ax.wf y
def d8(x:List ax):Prop:=x.length<=1048576/\∀y∈x,ax.sml y
structure a8 where
 Q:Int
 a2:Int
 o:Int
deriving DecidableEq,Inhabited
def a8.enc(o:dK)(x:a8):List C:=[I x.Q,I x.a2,I x.o]
theorem a8.enc_fz(x:a8):dP (a8.enc .own x)=a8.enc .X x:=by simp[dP,a8.enc]
theorem a8.enc_fr(x:a8):gR (a8.enc .own x):=⟨trivial,trivial,trivial,trivial⟩
def a8.wf(x:a8):Prop:=mq x.Q/\mq x.a2/\mq x.o
def a8.sml(_:a8):Prop:=True
def co(o:dK)(x:List a8):List C:=[.s o (x.map (a8.enc o))]
theorem E2(x:List a8):dP (co .own x)=co .X x:=by simp[dP,co,a8.enc_fz,<-bZ,T5]
def Jk(x:List a8):Prop:=x.length<=9223372036854775807/\∀y∈x,a8.wf y
def d9(x:List a8):Prop:=x.length<=1048576/\∀y∈x,a8.sml y
structure br where
 Id:Int
 Addr:Int
 o:Int
 a3:Int
deriving DecidableEq,Inhabited
def br.enc(o:dK)(x:br):List C:=[I x.Id,I x.Addr,I x.o,I x.a3]
theorem br.enc_fz(x:br):dP (br.enc .own x)=br.enc .X x:=by simp[dP,br.enc]
theorem br.enc_fr(x:br):gR (br.enc .own x):=⟨trivial,trivial,trivial,trivial,trivial⟩
def br.wf(x:br):Prop:=mq x.Id/\mq x.Addr/\mq x.o/\mq x.a3
def br.sml(_:br):Prop:=True
def lE(o:dK)(x:List br):List C:=[.s o (x.map (br.enc o))]
theorem Hx(x:List br):dP (lE .own x)=lE .X x:=by simp[dP,lE,br.enc_fz,<-bZ,T5]
def Ng(x:List br):Prop:=x.length<=9223372036854775807/\∀y∈x,br.wf y
def M6(x:List br):Prop:=x.length<=1048576/\∀y∈x,br.sml y
structure aE where
 d:List (List Int)
deriving DecidableEq,Inhabited
def aE.enc(o:dK)(x:aE):List C:=[.s o (x.d.map (aG o))]
theorem aE.enc_fz(x:aE):dP (aE.enc .own x)=aE.enc .X x:=by simp[dP,aE.enc,eN,<-bZ,T5]
theorem aE.enc_fr(x:aE):gR (aE.enc .own x):=⟨⟨.inl λh=>(by cases h),bf _ _ λy _=>bV y⟩,trivial⟩
def aE.wf(x:aE):Prop:=AS x.d
def aE.sml(x:aE):Prop:=wT x.d
def qG(o:dK)(x:List aE):List C:=[.s o (x.map (aE.enc o))]
def HN(x:List aE):Prop:=x.length<=9223372036854775807/\∀y∈x,aE.wf y
def F4(x:List aE):Prop:=x.length<=1048576/\∀y∈x,aE.sml y
structure dl where
 To:Int
 Addr:Int
deriving DecidableEq,Inhabited
def dl.enc(o:dK)(x:dl):List C:=[I x.To,I x.Addr]
theorem dl.enc_fz(x:dl):dP (dl.enc .own x)=dl.enc .X x:=by simp[dP,dl.enc]
theorem dl.enc_fr(x:dl):gR (dl.enc .own x):=⟨trivial,trivial,trivial⟩
def dl.wf(x:dl):Prop:=mq x.To/\mq x.Addr
def dl.sml(_:dl):Prop:=True
def dd(o:dK)(x:List dl):List C:=[.s o (x.map (dl.enc o))]
theorem pY(x:List dl):dP (dd .own x)=dd .X x:=by simp[dP,dd,dl.enc_fz,<-bZ,T5]
theorem qe(x:List dl):gR (dd .own x):=⟨⟨.inl λh=>(by cases h),bf _ _ λy _=>dl.enc_fr y⟩,trivial⟩
def Kr(x:List dl):Prop:=x.length<=9223372036854775807/\∀y∈x,dl.wf y
def Jo(x:List dl):Prop:=x.length<=1048576/\∀y∈x,dl.sml y
def DG(o:dK)(x:List (List dl)):List C:=[.s o (x.map (dd o))]
def HM(x:List (List dl)):Prop:=x.length<=9223372036854775807/\∀y∈x,Kr y
def FS(x:List (List dl)):Prop:=x.length<=1048576/\∀y∈x,Jo y
structure aK where
 U:List (List dl)
 a0:List (List Int)
deriving DecidableEq,Inhabited
def aK.enc(o:dK)(x:aK):List C:=[.s o (x.U.map (dd o)),.s o (x.a0.map (aG o))]
theorem aK.enc_fz(x:aK):dP (aK.enc .own x)=aK.enc .X x:=by simp[dP,aK.enc,pY,eN,<-bZ,T5]
theorem aK.enc_fr(x:aK):gR (aK.enc .own x):=⟨⟨.inl λh=>(by cases h),bf _ _ λy _=>qe y⟩,⟨.inl λh=>(by cases h),bf _ _ λy _=>bV y⟩,trivial⟩
def aK.wf(x:aK):Prop:=HM x.U/\AS x.a0
def aK.sml(x:aK):Prop:=FS x.U/\wT x.a0
structure aN where
 Addr:Int
 b:Int
 b7:Int
deriving DecidableEq,Inhabited
def aN.enc(o:dK)(x:aN):List C:=[I x.Addr,I x.b,I x.b7]
theorem aN.enc_fz(x:aN):dP (aN.enc .own x)=aN.enc .X x:=by simp[dP,aN.enc]
theorem aN.enc_fr(x:aN):gR (aN.enc .own x):=⟨trivial,trivial,trivial,trivial⟩
def aN.wf(x:aN):Prop:=mq x.Addr/\mq x.b/\mq x.b7
def aN.sml(_:aN):Prop:=True
def cS(o:dK)(x:List aN):List C:=[.s o (x.map (aN.enc o))]
theorem BK(x:List aN):dP (cS .own x)=cS .X x:=by simp[dP,cS,aN.enc_fz,<-bZ,T5]
theorem tD(x:List aN):gR (cS .own x):=⟨⟨.inl λh=>(by cases h),bf _ _ λy _=>aN.enc_fr y⟩,trivial⟩
def JD(x:List aN):Prop:=x.length<=9223372036854775807/\∀y∈x,aN.wf y
def k6(x:List aN):Prop:=x.length<=1048576/\∀y∈x,aN.sml y
structure bQ where
 c1:Int
 a5:List aN
deriving DecidableEq,Inhabited
def bQ.enc(o:dK)(x:bQ):List C:=[I x.c1,.s o (x.a5.map (aN.enc o))]
theorem bQ.enc_fz(x:bQ):dP (bQ.enc .own x)=bQ.enc .X x:=by simp[dP,bQ.enc,aN.enc_fz,<-bZ,T5]
theorem bQ.enc_fr(x:bQ):gR (bQ.enc .own x):=⟨trivial,⟨.inl λh=>(by cases h),bf _ _ λy _=>aN.enc_fr y⟩,trivial⟩
def bQ.wf(x:bQ):Prop:=mq x.c1/\JD x.a5
def bQ.sml(x:bQ):Prop:=k6 x.a5
structure cM where
 a4:Int
 a1:Int
 S:List Int
deriving DecidableEq,Inhabited
def cM.enc(o:dK)(x:cM):List C:=[I x.a4,I x.a1,.s o (x.S.map (rI o))]
theorem cM.enc_fz(x:cM):dP (cM.enc .own x)=cM.enc .X x:=by simp[dP,cM.enc,rI,<-bZ,T5]
theorem cM.enc_fr(x:cM):gR (cM.enc .own x):=⟨trivial,trivial,⟨.inl λh=>(by cases h),bf _ _ λy _=>pn y⟩,trivial⟩
def cM.wf(x:cM):Prop:=mq x.a4/\mq x.a1/\iX x.S
def cM.sml(x:cM):Prop:=qQ x.S
structure cK where
 W:cM
 b2:Int
 a:Int
deriving DecidableEq,Inhabited
def cK.enc(o:dK)(x:cK):List C:=[I x.W.a4,I x.W.a1,.s o (x.W.S.map (rI o)),I x.b2,I x.a]
theorem cK.enc_fz(x:cK):dP (cK.enc .own x)=cK.enc .X x:=by simp[dP,cK.enc,rI,<-bZ,T5]
theorem cK.enc_fr(x:cK):gR (cK.enc .own x):=⟨trivial,trivial,⟨.inl λh=>(by cases h),bf _ _ λy _=>pn y⟩,trivial,trivial,trivial⟩
def cK.wf(x:cK):Prop:=cM.wf x.W/\mq x.b2/\mq x.a
def cK.sml(x:cK):Prop:=cM.sml x.W
structure ab where
 G:ah
 q:List aA
 M:List ax
 K:List a8
 O:List br
 T:List aE
 w:aK
 a6:bQ
 c0:Int
 b5:Int
 c3:Int
 a:Int
 u:Bool
 Y:cK
deriving DecidableEq,Inhabited
def ab.enc(o:dK)(x:ab):List C:=[.s o (x.G.F.V.S.map (aG o)),.s o (x.G.F.V.a9.map (rB o)),.s o (x.G.F.R.J.map (bi.enc o)),I x.G.Calls,.s o (x.G.y.map (rI o)),.s o (x.q.map (aA.enc o)),.s o (x.M.map (ax.enc o)),.s o (x.K.map (a8.enc o)),.s o (x.O.map (br.enc o)),.s o (x.T.map (aE.enc o)),.s o (x.w.U.map (dd o)),.s o (x.w.a0.map (aG o)),I x.a6.c1,.s o (x.a6.a5.map (aN.enc o)),I x.c0,I x.b5,I x.c3,I x.a,B x.u,I x.Y.W.a4,I x.Y.W.a1,.s o (x.Y.W.S.map (rI o)),I x.Y.b2,I x.Y.a]
theorem ab.enc_fz(x:ab):dP (ab.enc .own x)=ab.enc .X x:=by simp[dP,ab.enc,aE.enc_fz,bi.enc_fz,a8.enc_fz,br.enc_fz,aA.enc_fz,ax.enc_fz,aN.enc_fz,rB,pY,rI,eN,<-bZ,T5]
theorem ab.enc_fr(x:ab):gR (ab.enc .own x):=⟨⟨.inl λh=>(by cases h),bf _ _ λy _=>bV y⟩,⟨.inl λh=>(by cases h),bf _ _ λy _=>E8 y⟩,⟨.inl λh=>(by cases h),bf _ _ λy _=>bi.enc_fr y⟩,trivial,⟨.inl λh=>(by cases h),bf _ _ λy _=>pn y⟩,⟨.inl λh=>(by cases h),bf _ _ λy _=>aA.enc_fr y⟩,⟨.inl λh=>(by cases h),bf _ _ λy _=>ax.enc_fr y⟩,⟨.inl λh=>(by cases h),bf _ _ λy _=>a8.enc_fr y⟩,⟨.inl λh=>(by cases h),bf _ _ λy _=>br.enc_fr y⟩,⟨.inl λh=>(by cases h),bf _ _ λy _=>aE.enc_fr y⟩,⟨.inl λh=>(by cases h),bf _ _ λy _=>qe y⟩,⟨.inl λh=>(by cases h),bf _ _ λy _=>bV y⟩,trivial,⟨.inl λh=>(by cases h),bf _ _ λy _=>aN.enc_fr y⟩,trivial,trivial,trivial,trivial,trivial,trivial,trivial,⟨.inl λh=>(by cases h),bf _ _ λy _=>pn y⟩,trivial,trivial,trivial⟩
def ab.wf(x:ab):Prop:=ah.wf x.G/\H4 x.q/\Lt x.M/\Jk x.K/\Ng x.O/\HN x.T/\aK.wf x.w/\bQ.wf x.a6/\mq x.c0/\mq x.b5/\mq x.c3/\mq x.a/\Ra x.u/\cK.wf x.Y
def ab.sml(x:ab):Prop:=ah.sml x.G/\iT x.q/\d8 x.M/\d9 x.K/\M6 x.O/\F4 x.T/\aK.sml x.w/\bQ.sml x.a6/\cK.sml x.Y
structure iW where
 b6:Int
 c4:Int
 c9:Int
 c5:Int
deriving DecidableEq,Inhabited
def iW.enc(o:dK)(x:iW):List C:=[I x.b6,I x.c4,I x.c9,I x.c5]
theorem iW.enc_fr(x:iW):gR (iW.enc .own x):=⟨trivial,trivial,trivial,trivial,trivial⟩
structure cn where
 Id:Int
 o:Int
 c8:Int
deriving DecidableEq,Inhabited
def cn.enc(o:dK)(x:cn):List C:=[I x.Id,I x.o,I x.c8]
theorem cn.enc_fz(x:cn):dP (cn.enc .own x)=cn.enc .X x:=by simp[dP,cn.enc]
theorem cn.enc_fr(x:cn):gR (cn.enc .own x):=⟨trivial,trivial,trivial,trivial⟩
structure bp where
 Id:Int
 S:List Int
deriving DecidableEq,Inhabited
def bp.enc(o:dK)(x:bp):List C:=[I x.Id,.s o (x.S.map (rI o))]
theorem bp.enc_fz(x:bp):dP (bp.enc .own x)=bp.enc .X x:=by simp[dP,bp.enc,rI,<-bZ,T5]
theorem bp.enc_fr(x:bp):gR (bp.enc .own x):=⟨trivial,⟨.inl λh=>(by cases h),bf _ _ λy _=>pn y⟩,trivial⟩
def bp.sml(x:bp):Prop:=qQ x.S
def Dj(x:List bp):Prop:=x.length<=1048576/\∀y∈x,bp.sml y
structure ay where
 a:Int
 O:List bp
deriving DecidableEq,Inhabited
def ay.enc(o:dK)(x:ay):List C:=[I x.a,.s o (x.O.map (bp.enc o))]
theorem ay.enc_fz(x:ay):dP (ay.enc .own x)=ay.enc .X x:=by simp[dP,ay.enc,bp.enc_fz,<-bZ,T5]
theorem Ca:type_of% @ay.enc_fz:=@ay.enc_fz
theorem ay.enc_fr(x:ay):gR (ay.enc .own x):=⟨trivial,⟨.inl λh=>(by cases h),bf _ _ λy _=>bp.enc_fr y⟩,trivial⟩
def ay.sml(x:ay):Prop:=Dj x.O
structure bj where
 Z:ab
 b3:ay
deriving DecidableEq,Inhabited
def bj.enc(o:dK)(x:bj):List C:=[.s o (x.Z.G.F.V.S.map (aG o)),.s o (x.Z.G.F.V.a9.map (rB o)),.s o (x.Z.G.F.R.J.map (bi.enc o)),I x.Z.G.Calls,.s o (x.Z.G.y.map (rI o)),.s o (x.Z.q.map (aA.enc o)),.s o (x.Z.M.map (ax.enc o)),.s o (x.Z.K.map (a8.enc o)),.s o (x.Z.O.map (br.enc o)),.s o (x.Z.T.map (aE.enc o)),.s o (x.Z.w.U.map (dd o)),.s o (x.Z.w.a0.map (aG o)),I x.Z.a6.c1,.s o (x.Z.a6.a5.map (aN.enc o)),I x.Z.c0,I x.Z.b5,I x.Z.c3,I x.Z.a,B x.Z.u,I x.Z.Y.W.a4,I x.Z.Y.W.a1,.s o (x.Z.Y.W.S.map (rI o)),I x.Z.Y.b2,I x.Z.Y.a,I x.b3.a,.s o (x.b3.O.map (bp.enc o))]
theorem bj.enc_fr(x:bj):gR (bj.enc .own x):=⟨⟨.inl λh=>(by cases h),bf _ _ λy _=>bV y⟩,⟨.inl λh=>(by cases h),bf _ _ λy _=>E8 y⟩,⟨.inl λh=>(by cases h),bf _ _ λy _=>bi.enc_fr y⟩,trivial,⟨.inl λh=>(by cases h),bf _ _ λy _=>pn y⟩,⟨.inl λh=>(by cases h),bf _ _ λy _=>aA.enc_fr y⟩,⟨.inl λh=>(by cases h),bf _ _ λy _=>ax.enc_fr y⟩,⟨.inl λh=>(by cases h),bf _ _ λy _=>a8.enc_fr y⟩,⟨.inl λh=>(by cases h),bf _ _ λy _=>br.enc_fr y⟩,⟨.inl λh=>(by cases h),bf _ _ λy _=>aE.enc_fr y⟩,⟨.inl λh=>(by cases h),bf _ _ λy _=>qe y⟩,⟨.inl λh=>(by cases h),bf _ _ λy _=>bV y⟩,trivial,⟨.inl λh=>(by cases h),bf _ _ λy _=>aN.enc_fr y⟩,trivial,trivial,trivial,trivial,trivial,trivial,trivial,⟨.inl λh=>(by cases h),bf _ _ λy _=>pn y⟩,trivial,trivial,trivial,⟨.inl λh=>(by cases h),bf _ _ λy _=>bp.enc_fr y⟩,trivial⟩
structure QD where
 a2:Int
 Mapped:Int
 V:Int
 Held:Int
 mb:Int
 Cached:Int
 c6:Int
 Posted:Int
deriving DecidableEq,Inhabited
theorem Lm{α β:Type}{f:α->β}{l:List α}{K:Nat->Prop}(h:K l.length):Ln (l.map f).length K:=Ln.mk (X0 ..) h
theorem Wm{z:Int}{K:Int->Prop}(h : -9223372036854775808<=z/\z<=9223372036854775807)(a:K z):Wr .i64 z K:=CL (eE h.1 h.2) a
theorem dT{p:Prop}[Decidable p]{X Y:Prop}(h:p)(a:p->X):Bf (decide p) X Y:=.D a λe=>absurd h e
theorem dF{p:Prop}[Decidable p]{X Y:Prop}(h:¬p)(a:¬p->Y):Bf (decide p) X Y:=.D (λe=>absurd e h) a
theorem nT{a b:Int}{X Y:Prop}(h:a≠b)(c:a≠b->X):Bf (a != b) X Y:=.N c λe=>absurd e h
theorem nF{a b:Int}{X Y:Prop}(h:a=b)(c:a=b->Y):Bf (a != b) X Y:=.N (λe=>absurd h e) c
theorem eT{a b:Int}{X Y:Prop}(h:a=b)(c:a=b->X):Bf (a == b) X Y:=.E c λe=>absurd h e
theorem eF{a b:Int}{X Y:Prop}(h:a≠b)(c:a≠b->Y):Bf (a == b) X Y:=.E (λe=>absurd e h) c
theorem Bn{b:Bool}{X Y:Prop}(h:Bf b Y X):Bf (!b) X Y:=.not h
theorem Bt{X Y:Prop}(h:X):Bf true X Y:=.t rfl h
theorem Bu{X Y:Prop}(h:Y):Bf false X Y:=.f rfl h
theorem Fm{k b:Kd}{cs a:List C}(h1:k=b)(h:cs=a):iU k b cs a:=.mk h1 h
theorem dV{p:Prop}[Decidable p]{X Y:Prop}(h:p)(a:X):Bf (decide p) X Y:=.D (λ_=>a) λe=>absurd h e
theorem dW{p:Prop}[Decidable p]{X Y:Prop}(h:¬p)(a:Y):Bf (decide p) X Y:=.D (λe=>absurd e h) λ_=>a
theorem nV{a b:Int}{X Y:Prop}(h:a≠b)(c:X):Bf (a != b) X Y:=.N (λ_=>c) λe=>absurd e h
theorem nW{a b:Int}{X Y:Prop}(h:a=b)(c:Y):Bf (a != b) X Y:=.N (λe=>absurd h e) λ_=>c
theorem eV{a b:Int}{X Y:Prop}(h:a=b)(c:X):Bf (a == b) X Y:=.E (λ_=>c) λe=>absurd h e
theorem eW{a b:Int}{X Y:Prop}(h:a≠b)(c:Y):Bf (a == b) X Y:=.E (λe=>absurd e h) λ_=>c
structure PP(Y:Prop):Prop where
 out:Y
theorem gO{X Y:Prop}(y:Y)(h:PP Y->X:=by intro y;(conv=>whnf);(first|with_reducible (first|refine Lm ?_|refine Wm ω ?_|refine Bn ?_|refine Fm rfl ?_)|refine Bt ?_|refine Bu ?_|fail);exact y.out):X:=h ⟨y⟩
theorem gD{X Y:Prop}(y:Y)(h:PP Y->X:=by intro y;(conv=>whnf);(first|with_reducible (first|refine Lm ?_|refine Wm ω ?_|refine dV ω ?_|refine dW ω ?_|refine Bn ?_|refine Fm rfl ?_)|refine Bt ?_|refine Bu ?_|fail);exact y.out):X:=h ⟨y⟩
theorem gA{X Y:Prop}(y:Y)(h:PP Y->X:=by intro y;(conv=>whnf);(first|with_reducible (first|refine Lm ?_|refine Wm ω ?_|refine dV ω ?_|refine dW ω ?_|refine nV ω ?_|refine nW ω ?_|refine eV ω ?_|refine eW ω ?_|refine Bn ?_|refine Fm rfl ?_)|refine Bt ?_|refine Bu ?_|fail);exact y.out):X:=h ⟨y⟩
theorem Qp{z1 z2:Int}(h:z1=z2):N9 (I z1) (I z2):=by subst h;rfl
theorem QV(c:C):N9 c c:=(lM [c]).1
theorem wA{X:Prop}(h:X:=by repeat'(first|exact trivial|rfl|refine CK ?_ ?_)):X:=h
theorem wB{X:Prop}(h:X:=by repeat'(first|exact trivial|rfl|refine CK ?_ ?_|(exact Qp (by first|omega|(simp only;omega)|(simp;omega))))):X:=h
theorem wC{X:Prop}(h:X:=by repeat'(first|exact trivial|rfl|exact QV _|refine CK ?_ ?_|(exact Qp (by first|omega|(simp only;omega)|(simp;omega))))):X:=h
theorem fO(n : Nat){f : Nat}{a : Func}{c : Code}{sh : Bool}{A : List RA}{k : Kd}{rcs : List C}(tb : List (Nat × Nat × List Nat))(d : Tryz.prog.funcs[f]? = some a)(e : a.body = some c)(g : aw Tryz.prog TE ⟨n, [], []⟩ (DF Tryz.prog TE ⟨n, [], []⟩ tb) c (MQ TE a.results.toList k rcs) (lay (uv 0 A)))(b : sh = true \/ gR rcs := by exact .inr ⟨trivial, trivial⟩)(h : (a.name == "runtime.NumGoroutine") = false := by kernel_rfl)(i : fV (my tb) c = true := by kernel_rfl)(j : A.length + (a.ntmps - A.length) = n := by rfl) : ar Tryz.prog f sh A k rcs := Qx d h e i j b g
theorem fP(n : Nat){f : Nat}{a : Func}{c : Code}{sh : Bool}{A : List RA}{k : Kd}{rcs : List C}(mo : List (Nat × List Nat))(tb : List (Nat × Nat × List Nat))(d : Tryz.prog.funcs[f]? = some a)(e : a.body = some c)(g : aw Tryz.prog TE ⟨n, [], mo⟩ (DF Tryz.prog TE ⟨n, [], mo⟩ tb) c (MQ TE a.results.toList k rcs) (lay (uv 0 A)))(b : sh = true \/ gR rcs := by exact .inr ⟨trivial, trivial⟩)(h : (a.name == "runtime.NumGoroutine") = false := by kernel_rfl)(i : fV (my tb) c = true := by kernel_rfl)(j : A.length + (a.ntmps - A.length) = n := by rfl) : ar Tryz.prog f sh A k rcs := Qx d h e i j b g
theorem fM(n : Nat){f : Nat}{a : Func}{c : Code}{sh : Bool}{A B : List MA}{k : Kd}{rcs : List C}(mo : List (Nat × List Nat))(tb : List (Nat × Nat × List Nat))(b : List (Nat × Nat))(g : Tryz.prog.funcs[f]? = some a)(h : a.body = some c)(i : ∀(u : Nat -> Nat -> Value)(p : Nat -> Value), aw Tryz.prog TE ⟨n, GQ p 0 A, mo⟩ (DF Tryz.prog TE ⟨n, GQ p 0 A, mo⟩ tb) c (P6 TE a.results.toList k rcs u A B b) (lay (wS u 0 A)))(d : sh = true \/ gR rcs := by exact .inr ⟨trivial, trivial⟩)(j : (a.name == "runtime.NumGoroutine") = false := by kernel_rfl)(l : fV (my tb) c = true := by kernel_rfl)(o : A.length + (a.ntmps - A.length) = n := by rfl)(e : FX (EE 0 A b) = true := by rfl) : aS Tryz.prog f sh A B k rcs := Q7 b g j h l o e d i
section
variable{α:Type}{l:List α}{p:α->Bool}{i:Nat}{x:α}
theorem cP(h:l[i]? = some x)(a:(l.take i).all p=true)(b:p x=true):(l.take (i+1)).all p=true:=by
 rw[I5,h,List.all_append,a];simp[b]
theorem eI(h:l[i]? = some x)(a:p x=false):l.all p=false:=by
 rw[List.all_eq_false];exact⟨x,U1 h,by simp[a]⟩
theorem gr(a:l.length<=i)(b:(l.take i).all p=true):l.all p=true:=by
 rwa [U6 a]at b
end
theorem uO{α β:Type}{a:List α}{b:List β}{i:Nat}{x:α}{y:β}(h1:a[i]? = some x)(c:b[i]? = some y):(a.zip b)[i]? = some (x,y):=by
 rw[List.getElem?_zip_eq_some];exact⟨h1,c⟩
def nth{α:Type}[Inhabited α](xs:List α)(i:Nat):α:=xs.getD i default
theorem ao{α:Type}[Inhabited α]{xs:List α}{i:Nat}(h:i<xs.length):xs[i]? = some (nth xs i):=by
 unfold nth;rw[I2,W1 h];rfl
theorem bc{α:Type}[Inhabited α]{xs:List α}{i:Nat}{y:α}(h:xs[i]? = some y):nth xs i=y:=by
 unfold nth;rw[I2,h];rfl
theorem am{α:Type}[Inhabited α]{xs:List α}{i:Nat}(h:i<xs.length):nth xs i∈xs:=U1 (ao h)
def cR(n:Nat)(p:Nat->Bool):Bool:=(List.range n).all p
theorem cH{n:Nat}{p:Nat->Bool} : cR n p=true↔∀j,j<n->p j=true:=by
 unfold cR;simp
theorem bN{n:Nat}{p:Nat->Bool}(h:cR n p=true)(a:p n=true):cR (n+1) p=true:=by
 rw[cH]at *;grind
theorem cu{n i:Nat}{p:Nat->Bool}(a:i<n)(b:p i=false):cR n p=false:=by
 by_cases h:cR n p=true
 ·rw[cH]at h;grind
 simpa using h
theorem dC{n i:Nat}{p:Nat->Bool}(h:cR n p=true)(a:i<n):p i=true:=cH.1 h i a
def ij(u:Bool)(v:Int):Bool:=decide (0<=v/\v<=999)&&(u || decide (v=0))
def gF(r:List Int)(u:Bool):Bool:=decide (r.length=16)&&r.all (ij u)
def dv(f:bo):Bool:=decide (1<=f.S.length/\f.S.length<=32)&&(decide (f.a9.length=f.S.length)&&(f.S.zip f.a9).all λq=>gF q.1 q.2)
theorem ip{f:bo}{i:Nat}{r:List Int}{u:Bool}(h1:f.S[i]? = some r)(a:f.a9[i]? = some u)(b:gF r u=false):dv f=false:=by
 unfold dv;rw[eI (p:=λq=>gF q.1 q.2) (uO h1 a) b];simp
theorem rk{r:List Int}{u:Bool}{k:Nat}{v:Int}(h1:r[k]? = some v)(a:ij u v=false):gF r u=false:=by
 unfold gF;rw[eI h1 a];simp
theorem Bk{f:bo}(h:dv f=true):1<=f.S.length/\f.S.length<=32/\f.a9.length=f.S.length:=by
 unfold dv at h;simp only[I0,C0]at h;exact⟨h.1.1,h.1.2,h.2.1⟩
def jS(a:Int)(e:bi):Bool:=decide (0<=e.j/\e.j<=2/\(e.j=0->e.e=0)/\(e.j≠0->0<=e.e/\e.e<a))
def fY(t:aH)(a:Int):Bool:=cR t.J.length (λi=>jS a (nth t.J i))&&decide (1<=t.J.length/\t.J.length<=32)
def JE(t:aH)(f:Int)(i:Nat):Bool:=decide ((nth t.J i).j≠0/\(nth t.J i).e=f)
def j9(t:aH)(f:Int)(n:Nat):List Int:=((List.range n).filter (JE t f)).map λ(i:Nat)=>(i:Int)
def pagesOn(t:aH)(f:Int):List Int:=j9 t f t.J.length
theorem zg{t:aH}{f:Int}{n:Nat}(h:JE t f n=true):j9 t f (n+1)=j9 t f n++[(n:Int)]:=by
 unfold j9;rw[List.range_succ,List.filter_append,R5];simp[h]
theorem Da{t:aH}{f:Int}{n:Nat}(h:JE t f n=false):j9 t f (n+1)=j9 t f n:=by
 unfold j9;rw[List.range_succ,List.filter_append,R5];simp[h]
theorem sK(t:aH)(f:Int)(n:Nat):(j9 t f n).length<=n:=by
 unfold j9;rw[X0];exact V4 (List.length_filter_le ..) (by simp)
def ac(t:aH)(p:Int):bi:=if 0<=p/\p<t.J.length then nth t.J p.toNat else⟨0,0⟩
def nD(m:aU)(i:Nat):Bool:=nth m.V.a9 i == decide (0<(pagesOn m.R (i:Int)).length)
def dy(m:aU):Bool:=(dv m.V&&fY m.R m.V.a9.length)&&cR m.V.a9.length (nD m)
def a7(k:ah):Bool:=(cR k.y.length (λi=>decide (0<=nth k.y i))&&dy k.F)&&decide (0<=k.Calls/\k.Calls<=100000/\k.y.length<=40)
def rangeIn(pages:Int)(r:aA):Bool:=decide (1<=r.b0/\r.b0<=pages/\0<=r.At/\r.At<=pages - r.b0)
def fX(pages:Int)(xs:List aA)(i:Nat):Bool:=rangeIn pages (nth xs i)&&decide (i=0\/(nth xs (i - 1)).At+(nth xs (i - 1)).b0<(nth xs i).At)
def b9(pages:Int)(xs:List aA):Bool:=cR xs.length (fX pages xs)&&decide (1<=pages/\pages<=32)
def pX(page:Int)(r:aA):Bool:=decide (r.At<=page)&&decide (page<IntKind.i64.wrap (r.At+r.b0))
def lim(k:Int):Int:=if k=0 then 65535 else if k=1 then 255 else if k=2 then 15 else if k=3 then 3 else 0
def slots(k:Int):Int:=if k=0 then 16 else if k=1 then 8 else if k=2 then 4 else if k=3 then 2 else 0
def bg(s:ax):Bool:=decide (0<=s.Q/\s.Q<=31/\0<=s.b/\s.b<=3/\0<=s.b1/\s.b1<=lim s.b)
def fj(n:Int):Int:=if 9<=n/\n<=1000 then(n+15) / 16 else 0
def bE(l:a8):Bool:=decide (9<=l.o/\l.o<=1000/\l.a2=(l.o+15) / 16/\0<=l.Q/\l.Q<=32 - l.a2)
def lpgs(l:a8)(n:Nat):List Int:=(List.range n).map λ(i:Nat)=>l.Q+i
def pgs(sp:List ax)(la:List a8):List Int:=sp.map (·.Q)++la.flatMap λl=>lpgs l l.a2.toNat
def bk(sp:List ax)(la:List a8):Bool:=(sp.all bg&&la.all bE)&&decide (pgs sp la).Nodup
def cq(s:ax)(a:Int):Bool:=bg s&&decide (16*s.Q<=a/\a<=16*s.Q+15)
def aR(b i:Int):Bool:=decide (0<=b/\0<=i/\i<=15/\b / 2 ^ i.toNat % 2=1)
def bn(l:a8)(a:Int):Bool:=bE l&&decide (16*l.Q<=a/\a<=16*l.Q+l.o - 1)
def csz(k:Int):Int:=if 0<=k/\k<=3 then 2 ^ k.toNat else 0
def iK(s:ax)(a:Int):Int × Int:=if cq s a then((a - 16*s.Q) / csz s.b,(a - 16*s.Q) % csz s.b) else(-1,-1)
def nz(i:Nat)(s:ax)(a:Int):iW:=⟨if aR s.b1 ((a - 16*s.Q) / csz s.b) then 1 else 2,i,(a - 16*s.Q) / csz s.b,(a - 16*s.Q) % csz s.b⟩
def denotes(sp:List ax)(la:List a8)(a:Int):iW:=
 match sp.findIdx? (cq · a) with
 | some i=>nz i (nth sp i) a
 | none=>match la.findIdx? (bn · a) with
  | some i=>⟨3,i,0,a - 16*(nth la i).Q⟩
  | none=>⟨0,0,0,0⟩
theorem uU{α:Type}{pr:α->Bool}{xs:List α}{i:Nat}{y:α}(a:xs[i]? = some y)(b:pr y=true)(c:∀(j:Nat)(z:α),j<i->xs[j]? = some z->pr z=false):xs.findIdx? pr=some i:=by
 obtain⟨d,rfl⟩:=Z1.1 a;exact T6.2 ⟨d,b,λj e=>by
   have:=c j _ e (W1 ω);simp[this]⟩
theorem xd{α:Type}{pr:α->Bool}{xs:List α}{i:Nat}(d:xs.length<=i)(b:∀(j:Nat)(z:α),j<i->xs[j]? = some z->pr z=false):xs.findIdx? pr=none:=
 List.findIdx?_eq_none_iff.2 λz c=>by
  obtain⟨j,a⟩:=List.mem_iff_getElem?.1 c;exact b j z (by have:=(Z1.1 a).1;omega) a
theorem d4{α:Type}{pr:α->Bool}{xs:List α}{i:Nat}{y:α}(c:xs[i]? = some y)(d:pr y=false)(e:∀(j:Nat)(z:α),j<i->xs[j]? = some z->pr z=false):∀(j:Nat)(z:α),j<i+1->xs[j]? = some z->pr z=false:=by
 intro j z f a;rcases Nat.lt_or_ge j i with b|b
 ·exact e j z b a
 obtain rfl:j=i:=ω
 rw[c]at a;cases a;exact d
def dD{α:Type}(pr:α->Bool)(xs:List α):Int:=match xs.findIdx? pr with|some i=>(i:Nat)|none=>-1
theorem ed{α:Type}{pr:α->Bool}{xs:List α}{i:Nat}{y:α}(a:xs[i]? = some y)(b:pr y=true)(c:∀(j:Nat)(z:α),j<i->xs[j]? = some z->pr z=false):dD pr xs=(i:Nat):=by
 unfold dD;rw[uU a b c]
theorem gP{α:Type}{pr:α->Bool}{xs:List α}{i:Nat}(a:xs.length<=i)(b:∀(j:Nat)(z:α),j<i->xs[j]? = some z->pr z=false):dD pr xs = -1:=by
 unfold dD;rw[xd a b]
theorem lL{α:Type}(pr:α->Bool)(xs:List α):decide (dD pr xs≥0)=xs.any pr:=by
 unfold dD;cases h:xs.findIdx? pr with
 | none=>
  have:=List.findIdx?_eq_none_iff.1 h;have a:xs.any pr=false:=by rw[List.any_eq_false];intro y b;simp[this y b]
  rw[a];rfl
 | some i=>
  obtain⟨c,d,-⟩:=T6.1 h;have a:xs.any pr=true:=V3.2 ⟨_,List.getElem_mem c,d⟩;rw[a];simp
def meshable(s t:ax):Bool:=(bg s&&bg t)&&decide (s.b=t.b/\s.Q≠t.Q/\s.b1.toNat &&& t.b1.toNat=0)
def mz(n:Int)(p:dl):Bool:=decide (0<=p.To/\p.To<=n - 1/\0<=p.Addr)
def NY(z:Int):Bool:=decide (0<=z)
def gv(m:aK)(i:Nat):Bool:=(nth m.U i).all (mz m.U.length)&&(nth m.a0 i).all NY
def bu(m:aK):Nat->Int
 | 0=>0
 | i+1=>bu m i+((nth m.U i).length+(nth m.a0 i).length)
def bJ(m:aK):Bool:=(decide (1<=m.U.length/\m.U.length<=4/\m.a0.length=m.U.length)&&cR m.U.length (gv m))&&decide (bu m m.U.length<=30)
def aL(m:aK):List Int:=if bJ m then(m.U.flatMap λl=>l.map (·.Addr))++m.a0.flatten else []
def eA(a:Int)(y:aN):Bool:=decide (y.Addr=a)
def kb(xs:List aN)(i:Nat):Bool:=decide (0<=(nth xs i).b/\(nth xs i).b<=3/\0<=(nth xs i).Addr/\0<=(nth xs i).b7/\(i=0\/(nth xs (i - 1)).b7<=(nth xs i).b7))&&!(xs.take i).any (eA (nth xs i).Addr)
def quarCells(xs:List aN):Nat->Int
 | 0=>0
 | i+1=>quarCells xs i+csz (nth xs i).b
def fT(q:bQ):Bool:=cR q.a5.length (kb q.a5)&&decide (0<=q.c1/\q.c1<=500/\quarCells q.a5 q.a5.length<=q.c1)
def lB(xs:List Int)(i:Nat):Bool:=decide (0<=nth xs i/\nth xs i<=15/\(i=0\/nth xs (i - 1)<nth xs i))
def ew(p:cM):Bool:=cR p.S.length (lB p.S)&&decide (0<=p.a4/\p.a4<=31/\0<=p.a1/\p.a1<=31/\p.a4≠p.a1)
def jx(j:cK):Bool:=ew j.W&&decide (0<=j.b2/\j.b2<=5/\0<=j.a/\j.a<=j.W.S.length)
def qO(j:cK):Bool:=decide (j.W.a4=0/\j.W.a1=0/\j.W.S.length=0/\j.b2=0/\j.a=0)
def aP(h:ab)(p:Int):List Int:=if(ac h.G.F.R p).j=0 then [] else pagesOn h.G.F.R (ac h.G.F.R p).e
def jL(p:Int)(s:ax):Bool:=decide (s.Q=p)
def gm(h:ab)(p:Int):Int:=dD (jL p) h.M
def aI(n:Int):Int:=if n<1 then -1 else if n<=1 then 0 else if n<=2 then 1 else if n<=4 then 2 else if n<=8 then 3 else -1
set_option maxRecDepth 20000
set_option maxHeartbeats 2000000
theorem aF(n lo a:Int):ar Tryz.prog 144 false [.val none [I n],.val none [I lo],.val none [I a]] .one [B (decide (lo<=n/\n<=a))]:=by
 refine fO 15 [] Tryz.func144 rfl ?_
 repeat'(first|refine gO ?_|(conv=>whnf);first|with_reducible refine Bf.D (λb=>?_) (λb=>?_))
 all_goals exact U0 (λz=>[B z]) (by simp;try omega)
theorem aO(n lo a:Int):ar Tryz.prog 60 false [.val none [I n],.val none [I lo],.val none [I a]] .one [B (decide (lo<=n/\n<=a))]:=by
 refine fO 15 [] Tryz.func60 rfl ?_
 repeat'(first|refine gO ?_|(conv=>whnf);first|with_reducible refine Bf.D (λb=>?_) (λb=>?_))
 all_goals exact U0 (λz=>[B z]) (by simp;try omega)
theorem fB(k:Int):ar Tryz.prog 246 false [.val none [I k]] .one [B (decide (0<=k/\k<=3))]:=by
 refine fO 5 [] Tryz.func246 rfl ?_
 repeat'(first|refine gO ?_|(conv=>whnf);first|refine C7 (aO k 0 3) ?_)
 rfl
theorem fp(k:Int):ar Tryz.prog 94 false [.val none [I k]] .one [I (csz k)]:=by
 by_cases b:0<=k/\k<=3
 ·obtain rfl|rfl|rfl|rfl:k=0\/k=1\/k=2\/k=3:=ω
  all_goals
   refine fO 8 [] Tryz.func94 rfl ?_
   repeat'(first|refine gD ?_|(conv=>whnf);first|with_reducible refine Bf.D (λa=>?_) (λa=>?_)|refine C7 (fB _) ?_|refine CN (by decide) ?_|refine CL rfl ?_)
   exact U0 (λz=>[I z]) (by decide)
 refine fO 8 [] Tryz.func94 rfl ?_
 repeat'(first|refine gD ?_|(conv=>whnf);first|with_reducible refine Bf.D (λa=>?_) (λa=>?_)|refine C7 (fB _) ?_)
 exact U0 (λz=>[I z]) (by unfold csz;rw[C8 b])
theorem dE(k:Int):ar Tryz.prog 375 false [.val none [I k]] .one [I (csz k)]:=by
 by_cases b:0<=k/\k<=3
 ·obtain rfl|rfl|rfl|rfl:k=0\/k=1\/k=2\/k=3:=ω
  all_goals
   refine fO 9 [] Tryz.func375 rfl ?_
   repeat'(first|refine gD ?_|(conv=>whnf);first|with_reducible refine Bf.D (λa=>?_) (λa=>?_)|refine C7 (aF _ 0 3) ?_|refine CN (by decide) ?_|refine CL rfl ?_)
   exact U0 (λz=>[I z]) (by decide)
 refine fO 9 [] Tryz.func375 rfl ?_
 repeat'(first|refine gD ?_|(conv=>whnf);first|with_reducible refine Bf.D (λa=>?_) (λa=>?_)|refine C7 (aF _ 0 3) ?_)
 exact U0 (λz=>[I z]) (by unfold csz;rw[C8 b])
theorem lS(xs:List Int)(a:Int)(j:xs.length<=9223372036854775807):ar Tryz.prog 367 false [.val none (aG .X xs),.val none [I a]] .one [B (decide (a∈xs))]:=by
 refine fO 18 [] Tryz.func367 rfl ?_
 repeat'(first|refine gO ?_|fail)
 (conv=>whnf)
 refine CE (ι:=Nat) (λi=>[(0,.H .one (aG .X xs)),(1,.H .one [I a]),(5,.H .one [I (i:Nat)])]) (λi=>i<=xs.length/\a∉xs.take i) (λi=>xs.length - i) 0 ?_ ⟨T0 _,by simp⟩ λi g=>?_
 ·exact wB
 obtain⟨g,b⟩:=g;by_cases c:i<xs.length
 ·obtain⟨y,d⟩ : ∃y,xs[i]? = some y:=⟨_,W1 c⟩
  repeat'(first|refine gD ?_|(conv=>whnf);first|with_reducible (first|refine CC (aa d) ?_|refine Bf.E (λh=>?_) (λh=>?_)))
  ·exact U0 (λz=>[B z]) (by symm;simp;rw[<-‹y=a›];exact U1 d)
  (conv=>whnf)
  refine CD (i+1) ⟨ω,?_⟩ ω ?_
  ·rw[I5,d]
   simp only[Option.toList_some,U2,C1,not_or];exact⟨b,λe=>‹y≠a› e.symm⟩
  exact wB
 repeat'(first|refine gD ?_|fail)
 rw[U6 ω]at b;exact U0 (λz=>[B z]) (by symm;simpa using b)
set_option maxHeartbeats 4000000
def good(k:Int)(s:List Int)(a:Int):Prop:=0<=a/\a<=511/\a.tmod (csz k)=0/\a∉s
instance (k:Int) (s:List Int) (a:Int):Decidable (good k s a):=by unfold good;exact inferInstance
def qz(k:Int):List Int->List Int->Option (List Int)
 | s,[]=>some s
 | s,a::l=>if good k s a then qz k (s++[a]) l else none
def eH(k:Nat)(s l:List Int):Option (List Int):=if l.length<=8/\k<=3 then qz k s l else none
def ge:Nat->List Int->List (List Int)->Option (List Int)
 | _,s,[]=>some s
 | k,s,l::ls=>(eH k s l).bind λa=>ge (k+1) a ls
def bw(c:aE):Bool:=decide (c.d.length=4)&&(ge 0 [] c.d).isSome
theorem qt(k:Int):∀(a s b:List Int),qz k s (a++b)=(qz k s a).bind λc=>qz k c b
 | [],s,b=>rfl
 | x::a,s,b=>by
  simp only[List.cons_append,qz];split
  ·exact qt k a _ b
  rfl
theorem om:∀(a:List (List Int))(k:Nat)(s:List Int)(b:List (List Int)),ge k s (a++b)=(ge k s a).bind λc=>ge (k+a.length) c b
 | [],k,s,b=>rfl
 | l::a,k,s,b=>by
  simp only[List.cons_append,ge,Option.bind_assoc,List.length_cons]
  congr 1;funext c
  rw[om a (k+1) c b,show k+1+a.length=k+(a.length+1) by omega]
theorem Hh{k:Int}{l b s:List Int}{j:Nat}{a:Int}(c:l[j]? = some a)(h:qz k b (l.take j)=some s)(d:good k s a):qz k b (l.take (j+1))=some (s++[a]):=by
 rw[I5,c,Option.toList_some,qt,h];simp[qz,d]
theorem Lz{k:Nat}{l c s:List Int}{j:Nat}{a:Int}(d:l[j]? = some a)(h:qz k c (l.take j)=some s)(e:¬good k s a):eH k c l=none:=by
 unfold eH;split
 ·have:l=l.take j++(a::l.drop (j+1)):=by
   obtain⟨b,rfl⟩:=Z1.1 d;rw[<-List.drop_eq_getElem_cons b,List.take_append_drop]
  rw[this,qt,h];simp[qz,e]
 rfl
theorem zI{k:Int} : ∀{l s b:List Int},qz k s l=some b->b.length=s.length+l.length
 | [],s,b,h=>by simp only[qz,W0]at h;subst h;simp
 | a::l,s,b,h=>by
  simp only[qz]at h;split at h
  ·have:=zI h;simp at this |-;omega
  cases h
theorem tg{a:List (List Int)}{i:Nat}{l s:List Int}(b:a[i]? = some l)(h:ge 0 [] (a.take i)=some s):ge 0 [] (a.take (i+1))=eH i s l:=by
 have c:=(Z1.1 b).1;rw[I5,b,Option.toList_some,om,h];simp only[Option.bind_some,ge,R6,O1,Nat.min_eq_left (Nat.le_of_lt c)];cases eH i s l<;>rfl
theorem kO{c:aE}{i:Nat}{l s:List Int}(b:c.d[i]? = some l)(h:ge 0 [] (c.d.take i)=some s)(d:eH i s l=none):bw c=false:=by
 have a:=tg b h;rw[d]at a;have e:ge 0 [] c.d=none:=by
  rw[<-List.take_append_drop (i+1) c.d,om,a];rfl
 unfold bw;rw[e];simp
theorem BC:∀{b:List (List Int)}{k:Nat}{s a:List Int},ge k s b=some a->a.length<=s.length+8*b.length
 | [],k,s,a,h=>by simp only[ge,W0]at h;subst h;simp
 | l::b,k,s,a,h=>by
  simp only[ge]at h;unfold eH at h;split at h
  ·cases c:qz k s l with
   | none=>rw[c]at h;cases h
   | some d=>
    rw[c]at h;have e:=zI c;have f:=BC (show ge (k+1) d b=some a from h);simp only[List.length_cons];omega
  cases h
theorem Ky{i:Nat}(h:i<=3):csz (i:Int)≠0:=by
 obtain rfl|rfl|rfl|rfl:i=0\/i=1\/i=2\/i=3:=ω
 all_goals decide
theorem cI{l:List Int} : ∀r∈l.map (rI .own),r.length=1:=by
 intro r a;obtain⟨z,-,rfl⟩:=C4.1 a;rfl
theorem nh(c:aE)(u:aE.sml c):ar Tryz.prog 229 false [.val (some 1) (aE.enc .X c)] .one [B (bw c)]:=by
 have H:=u.1;refine fO 60 [] Tryz.func229 rfl ?_
 repeat'(first|refine gO ?_|(conv=>whnf);first|with_reducible refine Bf.N (λe=>?_) (λe=>?_))
 ·exact U0 (λz=>[B z]) (by symm;unfold bw;rw[R0 ω];rfl)
 have w:c.d.length=4:=ω
 (conv=>whnf)
 refine CE (ι:=Nat × List Int) (λi=>[(1,.H .box (aE.enc .X c)),(3,.H .one (aG .own i.2)),(4,.H .one [I (i.1:Nat)])]) (λi=>i.1<=4/\ge 0 [] (c.d.take i.1)=some i.2) (λi=>4 - i.1) (0,[]) ?_ ⟨T0 _,rfl⟩ λi k=>?_
 ·exact wB
 obtain⟨i,s⟩:=i;obtain⟨k,b⟩:=k;simp only at k b |-;have g:=BC b;rw[O1]at g;simp only[List.length_nil]at g;by_cases E:i<4
 ·obtain⟨l,d⟩ : ∃l,c.d[i]? = some l:=⟨_,W1 ω⟩
  have F:l.length<=1048576:=u.2 l (U1 d)
  repeat'(first|refine gD ?_|(conv=>whnf);first|with_reducible (first|refine CC (aa d) ?_|refine Bf.D (λe=>?_) (λe=>?_)))
  ·exact U0 (λz=>[B z]) (kO d b (by unfold eH;rw[C8 ω])).symm
  have n:l.length<=8:=ω
  (conv=>whnf)
  refine CE (ι:=Nat × List Int) (λj=>[(1,.H .box (aE.enc .X c)),(3,.H .one (aG .own j.2)),(4,.H .one [I (i:Nat)]),(5,.H .one [I (j.1:Nat)])]) (λj=>j.1<=l.length/\qz i s (l.take j.1)=some j.2) (λj=>l.length - j.1) (0,s) ?_ ⟨T0 _,rfl⟩ λj o=>?_
  ·exact wB
  obtain⟨j,p⟩:=j;obtain⟨o,a⟩:=o;simp only at o a |-;have h:=zI a;rw[O1]at h;by_cases q:j<l.length
  ·obtain⟨y,t⟩ : ∃y,l[j]? = some y:=⟨_,W1 q⟩
   repeat'(first|refine gD ?_|(conv=>whnf);first|with_reducible (first|refine CC (aa d) ?_|refine CC (aa t) ?_|refine Bf.D (λe=>?_) (λe=>?_)|refine Bf.N (λe=>?_) (λe=>?_))|refine C7 (aF y 0 511) ?_|refine C7 (dE (i:Nat)) ?_|refine CN (Ky ω) ?_|refine CS rfl ?_|refine CG (lS p y ω) ⟨⟨rfl,eN _⟩,⟨rfl,rfl⟩,trivial⟩ ?_|refine CT cI (λr G=>by rw[C1.1 G];rfl) (by simp[aX,dU]) (by simp;omega) (by simp only[X0];exact yM (by simp;omega) (by decide)) rfl ?_)
   all_goals first
    | exact U0 (λz=>[B z]) (kO d b (Lz t a λ⟨J,K,L,M⟩=>by first|contradiction|omega)).symm
    | ((conv=>whnf)
       refine CD (j+1,p++[y]) ⟨(by simp only;omega),Hh t a ⟨ω,ω,(by assumption),(by assumption)⟩⟩ (by simp only;omega) ?_
       (repeat'(first|exact trivial|rfl|exact CK rfl (CK (U0 (C.s dK.own) (by simp[rI])) trivial)|refine CK ?_ ?_)))
  repeat'(first|refine gD ?_|(conv=>whnf);first|with_reducible refine CC (aa d) ?_)
  (conv=>whnf)
  rw[U6 ω]at a;refine CD (i+1,p) ⟨(by simp only;omega),(by rw[tg d b];unfold eH;rw[C9 ⟨n,ω⟩];exact a)⟩ (by simp only;omega) ?_;exact wB
 repeat'(first|refine gD ?_|fail)
 rw[U6 ω]at b;exact U0 (λz=>[B z]) (by symm;unfold bw;rw[b,O0 w];rfl)
def f7(s:List Int):List (Int × Value):=s.map λa=>(a,.bool true)
theorem mM(a:Int):∀(s:List Int),mlook (f7 s) a (.bool false)=.bool (decide (a∈s))
 | []=>by simp[f7,mlook]
 | x::s=>by
  have b:=mM a s;simp only[f7,U5,mlook]at b |-;by_cases h:x=a
  ·rw[C9 h];simp[h]
  rw[C8 h,b]
  congr 1
  simp[show ¬a=x from λe=>h e.symm]
theorem sF{a:Int} : ∀{s:List Int},a∉s->f7 (s++[a])=mput (f7 s) a (.bool true)
 | [],_=>rfl
 | x::s,h=>by
  simp only[List.mem_cons,not_or]at h;have b:=sF h.2;simp only[f7,List.cons_append,U5,mput]at b |-;rw[C8 λe=>h.1 e.symm,b]
theorem Aj(c:aE)(u:aE.sml c):ar Tryz.prog 77 false [.val (some 1) (aE.enc .X c)] .one [B (bw c)]:=by
 have C:=u.1;refine fO 54 [] Tryz.func77 rfl ?_
 repeat'(first|refine gO ?_|fail)
 (conv=>whnf)
 refine CE (ι:=Nat × List Int) (λi=>[(1,.H .box (aE.enc .X c)),(3,.H .one [.m (f7 i.2)]),(10,.H .one (lH .X c.d)),(11,.H .one [I c.d.length]),(12,.H .one [I (i.1:Nat)])]) (λi=>i.1<=c.d.length/\ge 0 [] (c.d.take i.1)=some i.2) (λi=>c.d.length - i.1) (0,[]) ?_ ⟨T0 _,rfl⟩ λi h=>?_
 ·exact wB
 obtain⟨i,s⟩:=i;obtain⟨h,b⟩:=h;simp only at h b |-;by_cases k:i<c.d.length
 ·obtain⟨l,d⟩ : ∃l,c.d[i]? = some l:=⟨_,W1 k⟩
  have w:l.length<=1048576:=u.2 l (U1 d)
  repeat'(first|refine gD ?_|(conv=>whnf);first|with_reducible (first|refine CC (aa d) ?_|refine Bf.D (λe=>?_) (λe=>?_))|refine C7 (fB (i:Nat)) ?_)
  ·exact U0 (λz=>[B z]) (kO d b (by unfold eH;rw[C8 ω])).symm
  rotate_left
  ·exact U0 (λz=>[B z]) (kO d b (by unfold eH;rw[C8 ω])).symm
  have n:l.length<=8:=ω
  have o:i<=3:=ω
  (conv=>whnf)
  refine CE (ι:=Nat × List Int) (λj=>[(1,.H .box (aE.enc .X c)),(3,.H .one [.m (f7 j.2)]),(4,.H .one [I (i:Nat)]),(10,.H .one (lH .X c.d)),(11,.H .one [I c.d.length]),(12,.H .one [I (i:Nat)]),(25,.H .one (aG .X l)),(26,.H .one [I l.length]),(27,.H .one [I (j.1:Nat)])]) (λj=>j.1<=l.length/\qz i s (l.take j.1)=some j.2) (λj=>l.length - j.1) (0,s) ?_ ⟨T0 _,rfl⟩ λj p=>?_
  ·exact wB
  obtain⟨j,q⟩:=j;obtain⟨p,a⟩:=p;simp only at p a |-;by_cases r:j<l.length
  ·obtain⟨y,t⟩ : ∃y,l[j]? = some y:=⟨_,W1 r⟩
   repeat'(first|refine gD ?_|(conv=>whnf);first|with_reducible (first|refine CC (aa d) ?_|refine CC (aa t) ?_|refine Bf.D (λe=>?_) (λe=>?_)|refine Bf.N (λe=>?_) (λe=>?_))|refine C7 (aO y 0 511) ?_|refine C7 (fp (i:Nat)) ?_|refine CN (Ky ω) ?_|refine CS rfl ?_|refine Ml.mk (mM y q) ?_|refine Mu.mk (sF (by assumption)) ?_)
   all_goals first
    | exact U0 (λz=>[B z]) (kO d b (Lz t a λ⟨E,F,G,H⟩=>by first|contradiction|omega)).symm
    | ((conv=>whnf)
       refine CD (j+1,q++[y]) ⟨(by simp only;omega),Hh t a ⟨ω,ω,(by assumption),(by assumption)⟩⟩ (by simp only;omega) ?_
       (exact wA))
  repeat'(first|refine gD ?_|fail)
  (conv=>whnf)
  rw[U6 ω]at a;refine CD (i+1,q) ⟨(by simp only;omega),(by rw[tg d b];unfold eH;rw[C9 ⟨n,o⟩];exact a)⟩ (by simp only;omega) ?_;exact wB
 repeat'(first|refine gD ?_|fail)
 rw[U6 ω]at b;have g:((c.d.length:Int) == 4)=decide (c.d.length=4):=by
  by_cases g:c.d.length=4
  ·simp[g]
  rw[R0 g];simp;omega
 exact U0 (λz=>[B z]) (g.trans (by unfold bw;rw[b];simp))
theorem G7:∀{b:List (List Int)}{k:Nat}{s c:List Int},ge k s b=some c->∀l∈b,l.length<=8
 | [],k,s,c,h,l,a=>by simp at a
 | x::b,k,s,c,h,l,a=>by
  simp only[ge]at h;unfold eH at h;split at h
  ·rename_i e
   rcases List.mem_cons.1 a with rfl|a
   ·exact e.1
   cases d:qz k s x with
   | none=>rw[d]at h;cases h
   | some f=>rw[d]at h;exact G7 (show ge (k+1) f b=some c from h) l a
  cases h
theorem tV{c:aE}(h:bw c=true):c.d.length=4/\∀l∈c.d,l.length<=8:=by
 unfold bw at h;simp only[I0,C0]at h;obtain⟨s,a⟩:=Option.isSome_iff_exists.1 h.2;exact⟨h.1,G7 a⟩
theorem xW(f:bo)(n:bo.sml f):ar Tryz.prog 83 false [.val (some 2) (bo.enc .X f)] .one [B (dv f)]:=by
 have C:=n.1.1;have E:f.a9.length<=1048576:=n.2;refine fO 61 [] Tryz.func83 rfl ?_
 repeat'(first|refine gO ?_|(conv=>whnf);first|with_reducible (first|refine Bf.D (λa=>?_) (λa=>?_)|refine Bf.N (λa=>?_) (λa=>?_))|refine C7 (aF f.S.length 1 32) ?_)
 ·exact U0 (λz=>[B z]) (by symm;unfold dv;rw[R0 (by omega:¬(f.a9.length=f.S.length))];simp)
 rotate_left
 ·exact U0 (λz=>[B z]) (by symm;unfold dv;rw[R0 (by omega:¬(1<=f.S.length/\f.S.length<=32))];rfl)
 have h:1<=f.S.length/\f.S.length<=32:=ω
 have j:f.a9.length=f.S.length:=ω
 (conv=>whnf)
 refine CE (ι:=Nat) (λi=>[(1,.H .box (bo.enc .X f)),(3,.H .one [I (i:Nat)])]) (λi=>i<=f.S.length/\((f.S.zip f.a9).take i).all (λq=>gF q.1 q.2)=true) (λi=>f.S.length - i) 0 ?_ ⟨T0 _,rfl⟩ λi o=>?_
 ·exact wB
 obtain⟨o,t⟩:=o;by_cases l:i<f.S.length
 ·obtain⟨r,c⟩ : ∃r,f.S[i]? = some r:=⟨_,W1 l⟩
  obtain⟨u,b⟩ : ∃u,f.a9[i]? = some u:=⟨_,W1 ω⟩
  repeat'(first|refine gD ?_|(conv=>whnf);first|with_reducible (first|refine CC (aa c) ?_|refine Bf.N (λa=>?_) (λa=>?_)))
  ·exact U0 (λz=>[B z]) (ip c b (by unfold gF;rw[R0 ω];rfl)).symm
  have g:r.length=16:=ω
  (conv=>whnf)
  refine CE (ι:=Nat) (λk=>[(1,.H .box (bo.enc .X f)),(3,.H .one [I (i:Nat)]),(4,.H .one [I (k:Nat)])]) (λk=>k<=16/\(r.take k).all (ij u)=true) (λk=>16 - k) 0 ?_ ⟨T0 _,rfl⟩ λk w=>?_
  ·exact wB
  obtain⟨w,d⟩:=w;by_cases y:k<16
  ·obtain⟨v,e⟩ : ∃v,r[k]? = some v:=⟨_,W1 ω⟩
   cases u with
   | true=>
    repeat'(first|refine gD ?_|(conv=>whnf);first|with_reducible (first|refine CC (aa c) ?_|refine CC (aa b) ?_|refine CC (aa e) ?_|refine Bf.D (λa=>?_) (λa=>?_)|refine Bf.N (λa=>?_) (λa=>?_))|refine C7 (aF v 0 999) ?_)
    all_goals first
     | exact U0 (λz=>[B z]) (ip c b (rk e (by first|(unfold ij;rw[R0 ω];rfl)|(unfold ij;rw[R0 (p:=v=0) ω];simp)))).symm
     | ((conv=>whnf)
        refine CD (ι:=Nat) (k+1) ⟨ω,cP e d (by unfold ij;first|(rw[O0 ω];rfl)|(rw[O0 (p:=0<=v/\v<=999) ω,O0 (p:=v=0) ω];rfl))⟩ ω ?_
        (exact wA))
   | false=>
    repeat'(first|refine gD ?_|(conv=>whnf);first|with_reducible (first|refine CC (aa c) ?_|refine CC (aa b) ?_|refine CC (aa e) ?_|refine Bf.D (λa=>?_) (λa=>?_)|refine Bf.N (λa=>?_) (λa=>?_))|refine C7 (aF v 0 999) ?_)
    all_goals first
     | exact U0 (λz=>[B z]) (ip c b (rk e (by first|(unfold ij;rw[R0 ω];rfl)|(unfold ij;rw[R0 (p:=v=0) ω];simp)))).symm
     | ((conv=>whnf)
        refine CD (ι:=Nat) (k+1) ⟨ω,cP e d (by unfold ij;first|(rw[O0 ω];rfl)|(rw[O0 (p:=0<=v/\v<=999) ω,O0 (p:=v=0) ω];rfl))⟩ ω ?_
        (exact wA))
  repeat'(first|refine gD ?_|fail)
  (conv=>whnf)
  refine CD (i+1) ⟨ω,cP (uO c b) t (by unfold gF;rw[gr ω d];simp[g])⟩ ω ?_;exact wB
 repeat'(first|refine gD ?_|fail)
 exact U0 (λz=>[B z]) (by symm;unfold dv;rw[gr (by rw[List.length_zip];omega) t];simp[h,j])
theorem yp(f:bo)(h:bo.sml f):ar Tryz.prog 254 false [.val (some 2) (bo.enc .X f)] .one [B (dv f)]:=by
 have C:=h.1.1;have E:f.a9.length<=1048576:=h.2;refine fO 55 [] Tryz.func254 rfl ?_
 repeat'(first|refine gO ?_|(conv=>whnf);first|with_reducible (first|refine Bf.D (λa=>?_) (λa=>?_)|refine Bf.N (λa=>?_) (λa=>?_))|refine C7 (aO f.S.length 1 32) ?_)
 ·exact U0 (λz=>[B z]) (by symm;unfold dv;rw[R0 (by omega:¬(f.a9.length=f.S.length))];simp)
 rotate_left
 ·exact U0 (λz=>[B z]) (by symm;unfold dv;rw[R0 (by omega:¬(1<=f.S.length/\f.S.length<=32))];rfl)
 have j:1<=f.S.length/\f.S.length<=32:=ω
 have l:f.a9.length=f.S.length:=ω
 (conv=>whnf)
 refine CE (ι:=Nat) (λi=>[(1,.H .box (bo.enc .X f)),(22,.H .one (lH .X f.S)),(23,.H .one [I (f.S.length)]),(24,.H .one [I ((i:Nat):Int)])]) (λi=>i<=f.S.length/\((f.S.zip f.a9).take i).all (λq=>gF q.1 q.2)=true) (λi=>f.S.length - i) (0) ?_ (⟨T0 _,rfl⟩) λi o=>?_
 ·exact wB
 obtain⟨o,p⟩:=o;by_cases n:i<f.S.length
 ·obtain⟨r,c⟩ : ∃r,f.S[i]? = some r:=⟨_,W1 n⟩
  obtain⟨u,b⟩ : ∃u,f.a9[i]? = some u:=⟨_,W1 ω⟩
  have y:r.length<=1048576:=h.1.2 r (U1 c)
  repeat'(first|refine gD ?_|(conv=>whnf);first|with_reducible (first|refine CC (aa c) ?_|refine Bf.N (λa=>?_) (λa=>?_)))
  ·exact U0 (λz=>[B z]) (ip c b (by unfold gF;rw[R0 ω];rfl)).symm
  have g:r.length=16:=ω
  (conv=>whnf)
  refine CE (ι:=Nat) (λk=>[(1,.H .box (bo.enc .X f)),(3,.H .one [I ((i:Nat):Int)]),(22,.H .one (lH .X f.S)),(23,.H .one [I (f.S.length)]),(24,.H .one [I ((i:Nat):Int)]),(32,.H .one (aG .X r)),(33,.H .one [I (r.length)]),(34,.H .one [I ((k:Nat):Int)])]) (λk=>k<=r.length/\(r.take k).all (ij u)=true) (λk=>r.length - k) (0) ?_ (⟨T0 _,rfl⟩) λk t=>?_
  ·exact wB
  obtain⟨t,d⟩:=t;by_cases w:k<r.length
  ·obtain⟨v,e⟩ : ∃v,r[k]? = some v:=⟨_,W1 ω⟩
   cases u with
   | true=>
    repeat'(first|refine gD ?_|(conv=>whnf);first|with_reducible (first|refine CC (aa c) ?_|refine CC (aa b) ?_|refine CC (aa e) ?_|refine Bf.D (λa=>?_) (λa=>?_)|refine Bf.N (λa=>?_) (λa=>?_))|refine C7 (aO v 0 999) ?_)
    all_goals first
     | exact U0 (λz=>[B z]) (ip c b (rk e (by unfold ij;grind))).symm
     | ((conv=>whnf)
        refine CD (ι:=Nat) (k+1) ⟨ω,cP e d (by unfold ij;grind)⟩ ω ?_
        (exact wA))
   | false=>
    repeat'(first|refine gD ?_|(conv=>whnf);first|with_reducible (first|refine CC (aa c) ?_|refine CC (aa b) ?_|refine CC (aa e) ?_|refine Bf.D (λa=>?_) (λa=>?_)|refine Bf.N (λa=>?_) (λa=>?_))|refine C7 (aO v 0 999) ?_)
    all_goals first
     | exact U0 (λz=>[B z]) (ip c b (rk e (by unfold ij;grind))).symm
     | ((conv=>whnf)
        refine CD (ι:=Nat) (k+1) ⟨ω,cP e d (by unfold ij;grind)⟩ ω ?_
        (exact wA))
  repeat'(first|refine gD ?_|fail)
  (conv=>whnf)
  refine CD (i+1) ⟨ω,cP (uO c b) p (by unfold gF;rw[gr ω d];simp[g])⟩ ω ?_;exact wB
 repeat'(first|refine gD ?_|fail)
 exact U0 (λz=>[B z]) (by symm;unfold dv;rw[gr (by rw[List.length_zip];omega) p];simp[j,l])
theorem zY(t:aH)(b:Int)(g:aH.sml t):ar Tryz.prog 472 false [.val (some 1) (aH.enc .X t),.val none [I b]] .one [B (fY t b)]:=by
 have k:=g.1;refine fO 54 [] Tryz.func472 rfl ?_
 repeat'(first|refine gO ?_|fail)
 (conv=>whnf)
 refine CE (ι:=Nat) (λi=>[(1,.H .one [I (b)]),(2,.H .box (aH.enc .X t)),(5,.H .one [I ((i:Nat):Int)])]) (λi=>i<=t.J.length/\cR i (λj=>jS b (nth t.J j))=true) (λi=>t.J.length - i) 0 ?_ ⟨T0 _,rfl⟩ λi c=>?_
 ·exact wB
 obtain⟨c,d⟩:=c;by_cases e:i<t.J.length
 ·have h:=ao e
  repeat'(first|refine gD ?_|(conv=>whnf);first|with_reducible (first|refine CC (aa h) ?_|refine Bf.D (λa=>?_) (λa=>?_)|refine Bf.N (λa=>?_) (λa=>?_)|refine Bf.E (λa=>?_) (λa=>?_))|refine C7 (aF _ 0 2) ?_)
  all_goals first
   | exact U0 (λz=>[B z]) ((by symm;unfold fY;rw[cu e (R0 (by grind))];rfl))
   | ((conv=>whnf);refine CD (i+1) ⟨ω,bN d (O0 (by grind))⟩ ω ?_;(exact wB))
 repeat'(first|refine gD ?_|(conv=>whnf);first|refine C7 (aF _ 1 32) ?_)
 obtain rfl:i=t.J.length:=ω
 exact U0 (λz=>[B z]) ((by unfold fY;rw[d,Bool.true_and];exact decide_eq_decide.2 ω))
theorem Bl(t:aH)(b:Int)(g:aH.sml t):ar Tryz.prog 255 false [.val (some 1) (aH.enc .X t),.val none [I b]] .one [B (fY t b)]:=by
 have k:=g.1;refine fO 49 [] Tryz.func255 rfl ?_
 repeat'(first|refine gO ?_|fail)
 (conv=>whnf)
 refine CE (ι:=Nat) (λi=>[(1,.H .one [I (b)]),(2,.H .box (aH.enc .X t)),(8,.H .one (B0 .X t.J)),(9,.H .one [I (t.J.length)]),(10,.H .one [I ((i:Nat):Int)])]) (λi=>i<=t.J.length/\cR i (λj=>jS b (nth t.J j))=true) (λi=>t.J.length - i) 0 ?_ ⟨T0 _,rfl⟩ λi c=>?_
 ·exact wB
 obtain⟨c,d⟩:=c;by_cases e:i<t.J.length
 ·have h:=ao e
  repeat'(first|refine gD ?_|(conv=>whnf);first|with_reducible (first|refine CC (aa h) ?_|refine Bf.D (λa=>?_) (λa=>?_)|refine Bf.N (λa=>?_) (λa=>?_)|refine Bf.E (λa=>?_) (λa=>?_))|refine C7 (aO _ 0 2) ?_)
  all_goals first
   | exact U0 (λz=>[B z]) ((by symm;unfold fY;rw[cu e (R0 (by grind))];rfl))
   | ((conv=>whnf);refine CD (i+1) ⟨ω,bN d (O0 (by grind))⟩ ω ?_;(exact wB))
 repeat'(first|refine gD ?_|(conv=>whnf);first|refine C7 (aO _ 1 32) ?_)
 obtain rfl:i=t.J.length:=ω
 exact U0 (λz=>[B z]) ((by unfold fY;rw[d,Bool.true_and];exact decide_eq_decide.2 ω))
theorem gw(t:aH)(f:Int)(c:aH.sml t):ar Tryz.prog 473 false [.val (some 1) (aH.enc .X t),.val none [I f]] .one (aG .own (pagesOn t f)):=by
 have j:=c.1;refine fO 37 [] Tryz.func473 rfl ?_ (.inr (bV _))
 repeat'(first|refine gO ?_|fail)
 (conv=>whnf)
 refine CE (ι:=Nat) (λi=>[(1,.H .one [I (f)]),(2,.H .box (aH.enc .X t)),(5,.H .one (aG .own (j9 t f i))),(6,.H .one [I ((i:Nat):Int)])]) (λi=>i<=t.J.length) (λi=>t.J.length - i) (0) ?_ (T0 _) λi k=>?_
 ·exact wB
 have d:=sK t f i;by_cases e:i<t.J.length
 ·have g:=ao e
  repeat'(first|refine gD ?_|(conv=>whnf);first|with_reducible (first|refine CC (aa g) ?_|refine Bf.D (λb=>?_) (λb=>?_)|refine Bf.N (λb=>?_) (λb=>?_)|refine Bf.E (λb=>?_) (λb=>?_))|refine CT cI (λr h=>by rw[C1.1 h];rfl) (by simp[aX,dU]) (by simp;omega) (by simp only[X0];exact yM (by simp;omega) (by decide)) rfl ?_)
  all_goals first
   |(have a:JE t f i=true:=O0 (by grind)
     (conv=>whnf)
     refine CD (i+1) ω ω ?_;rw[zg a]
     (repeat'(first|exact trivial|rfl|exact CK rfl (CK (U0 (C.s dK.own) (by simp[rI])) trivial)|refine CK ?_ ?_)))
   |(have a:JE t f i=false:=R0 (by grind)
     (conv=>whnf)
     refine CD (i+1) ω ω ?_;rw[Da a]
     (exact wA))
 repeat'(first|refine gD ?_|fail)
 obtain rfl:i=t.J.length:=ω
 rfl
theorem qK(t:aH)(f:Int)(c:aH.sml t):ar Tryz.prog 256 false [.val (some 1) (aH.enc .X t),.val none [I f]] .one (aG .own (pagesOn t f)):=by
 have j:=c.1;refine fO 32 [] Tryz.func256 rfl ?_ (.inr (bV _))
 repeat'(first|refine gO ?_|fail)
 (conv=>whnf)
 refine CE (ι:=Nat) (λi=>[(1,.H .one [I (f)]),(5,.H .one (aG .own (j9 t f i))),(10,.H .one (B0 .X t.J)),(11,.H .one [I (t.J.length)]),(12,.H .one [I ((i:Nat):Int)])]) (λi=>i<=t.J.length) (λi=>t.J.length - i) (0) ?_ (T0 _) λi k=>?_
 ·exact wB
 have d:=sK t f i;by_cases e:i<t.J.length
 ·have g:=ao e
  repeat'(first|refine gD ?_|(conv=>whnf);first|with_reducible (first|refine CC (aa g) ?_|refine Bf.D (λb=>?_) (λb=>?_)|refine Bf.N (λb=>?_) (λb=>?_)|refine Bf.E (λb=>?_) (λb=>?_))|refine CT cI (λr h=>by rw[C1.1 h];rfl) (by simp[aX,dU]) (by simp;omega) (by simp only[X0];exact yM (by simp;omega) (by decide)) rfl ?_)
  all_goals first
   |(have a:JE t f i=true:=O0 (by grind)
     (conv=>whnf)
     refine CD (i+1) ω ω ?_;rw[zg a]
     (repeat'(first|exact trivial|rfl|exact CK rfl (CK (U0 (C.s dK.own) (by simp[rI])) trivial)|refine CK ?_ ?_)))
   |(have a:JE t f i=false:=R0 (by grind)
     (conv=>whnf)
     refine CD (i+1) ω ω ?_;rw[Da a]
     (exact wA))
 repeat'(first|refine gD ?_|fail)
 obtain rfl:i=t.J.length:=ω
 rfl
theorem db(t:aH)(p:Int)(b:aH.sml t):ar Tryz.prog 48 false [.val (some 1) (aH.enc .X t),.val none [I p]] .agg (bi.enc .own (ac t p)):=by
 have d:=b.1;refine fO 18 [] Tryz.func48 rfl ?_ (.inr (bi.enc_fr _));by_cases a:0<=p/\p<t.J.length
 ·have c:=ao (xs:=t.J) (i:=p.toNat) ω
  repeat'(first|refine gD ?_|(conv=>whnf);first|refine C7 (aF _ 0 _) ?_|refine CM a.1 (aa c) ?_)
  all_goals(unfold ac;rw[C9 a];rfl)
 repeat'(first|refine gD ?_|(conv=>whnf);first|refine C7 (aF _ 0 _) ?_)
 all_goals(unfold ac;rw[C8 a];rfl)
theorem iD(t:aH)(p:Int)(b:aH.sml t):ar Tryz.prog 139 false [.val (some 1) (aH.enc .X t),.val none [I p]] .agg (bi.enc .own (ac t p)):=by
 have d:=b.1;refine fO 18 [] Tryz.func139 rfl ?_ (.inr (bi.enc_fr _));by_cases a:0<=p/\p<t.J.length
 ·have c:=ao (xs:=t.J) (i:=p.toNat) ω
  repeat'(first|refine gD ?_|(conv=>whnf);first|refine C7 (aO _ 0 _) ?_|refine CM a.1 (aa c) ?_)
  all_goals(unfold ac;rw[C9 a];rfl)
 repeat'(first|refine gD ?_|(conv=>whnf);first|refine C7 (aO _ 0 _) ?_)
 all_goals(unfold ac;rw[C8 a];rfl)
theorem qm(t:aH)(f:Int):(pagesOn t f).length<=t.J.length:=sK ..
theorem oD(m:aU)(b:aU.sml m):ar Tryz.prog 364 false [.val (some 3) (aU.enc .X m)] .one [B (dy m)]:=by
 have q:m.V.a9.length<=1048576:=b.1.2;have l:m.V.S.length<=1048576:=b.1.1.1;have c:=xW m.V b.1;have e:=zY m.R m.V.S.length b.2;cases a:dv m.V with
 | false=>
  rw[a]at c;refine fO 39 [(6,13,[26,27,28,29,30,31,32,33,34,35,36,37,38])] Tryz.func364 rfl ?_
  repeat'(first|refine gO ?_|(conv=>whnf);first|refine C7 c ?_)
  exact U0 (λz=>[B z]) ((by unfold dy;rw[a];rfl))
 | true=>
  have g:=Bk a;rw[a]at c;cases d:fY m.R m.V.a9.length with
  | false=>
   rw[show(m.V.S.length:Int)=m.V.a9.length by omega,d]at e;refine fO 39 [(6,13,[26,27,28,29,30,31,32,33,34,35,36,37,38])] Tryz.func364 rfl ?_
   repeat'(first|refine gO ?_|(conv=>whnf);first|refine C7 c ?_|refine C7 ((show(m.V.S.length:Int)=m.V.a9.length by omega) ▸ e) ?_)
   exact U0 (λz=>[B z]) ((by unfold dy;rw[a,d];rfl))
  | true=>
   rw[show(m.V.S.length:Int)=m.V.a9.length by omega,d]at e;refine fO 39 [(6,13,[26,27,28,29,30,31,32,33,34,35,36,37,38])] Tryz.func364 rfl ?_
   repeat'(first|refine gO ?_|(conv=>whnf);first|refine C7 c ?_|refine C7 ((show(m.V.S.length:Int)=m.V.a9.length by omega) ▸ e) ?_)
   (conv=>whnf)
   refine CE (ι:=Nat) (λi=>[(1,.H .box (aU.enc .X m)),(3,.H .one [I ((i:Nat):Int)])]) (λi=>i<=m.V.a9.length/\cR i (nD m)=true) (λi=>m.V.a9.length - i) 0 ?_ ⟨T0 _,rfl⟩ λi h=>?_
   ·exact wB
   obtain⟨h,j⟩:=h;by_cases k:i<m.V.a9.length
   ·have n:=ao k
    have o:=qm m.R (i:Nat)
    repeat'(first|refine gD ?_|(conv=>whnf);first|with_reducible (first|refine CC (aa n) ?_|refine Bf.NB (λp=>?_) (λp=>?_))|refine C7 (gw m.R (i:Nat) b.2) ?_)
    all_goals first
     | exact U0 (λz=>[B z]) ((by symm;unfold dy;rw[a,d,cu k (by unfold nD;grind)];rfl))
     | ((conv=>whnf);refine CD (i+1) ⟨ω,bN j (by unfold nD;grind)⟩ ω ?_;(exact wB))
   repeat'(first|refine gD ?_|fail)
   obtain rfl:i=m.V.a9.length:=ω
   exact U0 (λz=>[B z]) ((by unfold dy;rw[a,d,j];rfl))
theorem vW(m:aU)(d:aU.sml m):ar Tryz.prog 84 false [.val (some 3) (aU.enc .X m)] .one [B (dy m)]:=by
 have o:m.V.a9.length<=1048576:=d.1.2;have b:=yp m.V d.1;have e:=Bl m.R m.V.a9.length d.2;cases a:dv m.V with
 | false=>
  rw[a]at b;refine fO 37 [] Tryz.func84 rfl ?_
  repeat'(first|refine gO ?_|(conv=>whnf);first|refine C7 b ?_)
  exact U0 (λz=>[B z]) ((by unfold dy;rw[a];rfl))
 | true=>
  rw[a]at b;cases c:fY m.R m.V.a9.length with
  | false=>
   rw[c]at e;refine fO 37 [] Tryz.func84 rfl ?_
   repeat'(first|refine gO ?_|(conv=>whnf);first|refine C7 b ?_|refine C7 e ?_)
   exact U0 (λz=>[B z]) ((by unfold dy;rw[a,c];rfl))
  | true=>
   rw[c]at e;refine fO 37 [] Tryz.func84 rfl ?_
   repeat'(first|refine gO ?_|(conv=>whnf);first|refine C7 b ?_|refine C7 e ?_)
   (conv=>whnf)
   refine CE (ι:=Nat) (λi=>[(1,.H .box (aU.enc .X m)),(21,.H .one (A9 .X m.V.a9)),(22,.H .one [I (m.V.a9.length)]),(23,.H .one [I ((i:Nat):Int)])]) (λi=>i<=m.V.a9.length/\cR i (nD m)=true) (λi=>m.V.a9.length - i) 0 ?_ ⟨T0 _,rfl⟩ λi g=>?_
   ·exact wB
   obtain⟨g,h⟩:=g;by_cases j:i<m.V.a9.length
   ·have k:=ao j
    have l:=qm m.R (i:Nat)
    repeat'(first|refine gD ?_|(conv=>whnf);first|with_reducible (first|refine CC (aa k) ?_|refine Bf.NB (λn=>?_) (λn=>?_))|refine C7 (qK m.R (i:Nat) d.2) ?_)
    all_goals first
     | exact U0 (λz=>[B z]) ((by symm;unfold dy;rw[a,c,cu j (by unfold nD;grind)];rfl))
     | ((conv=>whnf);refine CD (i+1) ⟨ω,bN h (by unfold nD;grind)⟩ ω ?_;(exact wB))
   repeat'(first|refine gD ?_|fail)
   obtain rfl:i=m.V.a9.length:=ω
   exact U0 (λz=>[B z]) ((by unfold dy;rw[a,c,h];rfl))
theorem ly(k:ah)(d:ah.sml k):ar Tryz.prog 223 false [.val (some 5) (ah.enc .X k)] .one [B (a7 k)]:=by
 have n:k.y.length<=1048576:=d.2;have a:=oD k.F d.1;refine fO 31 [] Tryz.func223 rfl ?_
 repeat'(first|refine gO ?_|fail)
 (conv=>whnf)
 refine CE (ι:=Nat) (λi=>[(1,.H .box (ah.enc .X k)),(3,.H .one [I ((i:Nat):Int)])]) (λi=>i<=k.y.length/\cR i (λj=>decide (0<=nth k.y j))=true) (λi=>k.y.length - i) 0 ?_ ⟨T0 _,rfl⟩ λi e=>?_
 ·exact wB
 obtain⟨e,g⟩:=e;by_cases h:i<k.y.length
 ·have l:=ao h
  repeat'(first|refine gD ?_|(conv=>whnf);first|with_reducible (first|refine CC (aa l) ?_|refine Bf.D (λc=>?_) (λc=>?_)))
  all_goals first
   | exact U0 (λz=>[B z]) ((by symm;unfold a7;rw[cu h (R0 ω)];rfl))
   | ((conv=>whnf);refine CD (i+1) ⟨ω,bN g (O0 ω)⟩ ω ?_;(exact wB))
 obtain rfl:i=k.y.length:=ω
 cases b:dy k.F with
 | false=>
  rw[b]at a
  repeat'(first|refine gD ?_|(conv=>whnf);first|refine C7 a ?_)
  all_goals exact U0 (λz=>[B z]) ((by unfold a7;rw[b];simp))
 | true=>
  rw[b]at a
  repeat'(first|refine gD ?_|(conv=>whnf);first|with_reducible refine Bf.D (λc=>?_) (λc=>?_)|refine C7 a ?_|refine C7 (aF _ 0 100000) ?_)
  all_goals exact U0 (λz=>[B z]) ((by unfold a7;rw[b,g];simp only[Bool.true_and];first|exact decide_eq_decide.2 ω|(symm;exact R0 ω)|(symm;exact O0 ω)))
theorem xJ(k:ah)(b:ah.sml k):ar Tryz.prog 27 false [.val (some 5) (ah.enc .X k)] .one [B (a7 k)]:=by
 have l:k.y.length<=1048576:=b.2;have g:=vW k.F b.1;refine fO 29 [] Tryz.func27 rfl ?_
 repeat'(first|refine gO ?_|fail)
 (conv=>whnf)
 refine CE (ι:=Nat) (λi=>[(1,.H .box (ah.enc .X k)),(6,.H .one (aG .X k.y)),(7,.H .one [I (k.y.length)]),(8,.H .one [I ((i:Nat):Int)])]) (λi=>i<=k.y.length/\cR i (λj=>decide (0<=nth k.y j))=true) (λi=>k.y.length - i) 0 ?_ ⟨T0 _,rfl⟩ λi c=>?_
 ·exact wB
 obtain⟨c,d⟩:=c;by_cases e:i<k.y.length
 ·have h:=ao e
  repeat'(first|refine gD ?_|(conv=>whnf);first|with_reducible (first|refine CC (aa h) ?_|refine Bf.D (λa=>?_) (λa=>?_)))
  all_goals first
   | exact U0 (λz=>[B z]) ((by symm;unfold a7;rw[cu e (R0 ω)];rfl))
   | ((conv=>whnf);refine CD (i+1) ⟨ω,bN d (O0 ω)⟩ ω ?_;(exact wB))
 obtain rfl:i=k.y.length:=ω
 repeat'(first|refine gD ?_|(conv=>whnf);first|with_reducible refine Bf.D (λa=>?_) (λa=>?_)|refine C7 g ?_|refine C7 (aO _ 0 100000) ?_)
 all_goals exact U0 (λz=>[B z]) ((by unfold a7;rw[d];cases dy k.F<;>simp only[Bool.true_and,Bool.false_and]<;>first|rfl|exact decide_eq_decide.2 ω|(symm;exact R0 ω)|(symm;exact O0 ω)))
theorem vP(pages:Int)(r:aA)(b:0<=pages/\pages<=1048576):ar Tryz.prog 365 false [.val none [I pages],.val (some 2) (aA.enc .X r)] .one [B (rangeIn pages r)]:=by
 refine fO 18 [] Tryz.func365 rfl ?_
 repeat'(first|refine gO ?_|(conv=>whnf);first|with_reducible refine Bf.D (λa=>?_) (λa=>?_)|refine C7 (aF _ 1 _) ?_|refine C7 (aF _ 0 _) ?_)
 all_goals exact U0 (λz=>[B z]) ((by unfold rangeIn;first|(symm;exact R0 ω)|exact decide_eq_decide.2 ω))
theorem EY(pages:Int)(r:aA)(b:0<=pages/\pages<=1048576):ar Tryz.prog 238 false [.val none [I pages],.val (some 2) (aA.enc .X r)] .one [B (rangeIn pages r)]:=by
 refine fO 18 [] Tryz.func238 rfl ?_
 repeat'(first|refine gO ?_|(conv=>whnf);first|with_reducible refine Bf.D (λa=>?_) (λa=>?_)|refine C7 (aO _ 1 _) ?_|refine C7 (aO _ 0 _) ?_)
 all_goals exact U0 (λz=>[B z]) ((by unfold rangeIn;first|(symm;exact R0 ω)|exact decide_eq_decide.2 ω))
theorem mX(k:Int):ar Tryz.prog 475 false [.val none [I k]] .one [I (slots k)]:=by
 by_cases b:0<=k/\k<=3
 ·obtain rfl|rfl|rfl|rfl:k=0\/k=1\/k=2\/k=3:=ω
  all_goals
   refine fO 9 [] Tryz.func475 rfl ?_
   repeat'(first|refine gD ?_|(conv=>whnf);first|with_reducible refine Bf.D (λa=>?_) (λa=>?_)|refine C7 (aF _ 0 3) ?_|refine CN (by decide) ?_|refine CL rfl ?_|refine CS rfl ?_)
   exact U0 (λz=>[I z]) (by decide)
 refine fO 9 [] Tryz.func475 rfl ?_
 repeat'(first|refine gD ?_|(conv=>whnf);first|with_reducible refine Bf.D (λa=>?_) (λa=>?_)|refine C7 (aF _ 0 3) ?_)
 exact U0 (λz=>[I z]) (by unfold slots;rw[C8 ω,C8 ω,C8 ω,C8 ω])
theorem ix(k:Int):ar Tryz.prog 349 false [.val none [I k]] .one [I (slots k)]:=by
 by_cases b:0<=k/\k<=3
 ·obtain rfl|rfl|rfl|rfl:k=0\/k=1\/k=2\/k=3:=ω
  all_goals
   refine fO 9 [] Tryz.func349 rfl ?_
   repeat'(first|refine gD ?_|(conv=>whnf);first|with_reducible refine Bf.D (λa=>?_) (λa=>?_)|refine C7 (fB _) ?_|refine C7 (fp _) ?_|refine CN (by decide) ?_|refine CL rfl ?_|refine CS rfl ?_)
   exact U0 (λz=>[I z]) (by decide)
 refine fO 9 [] Tryz.func349 rfl ?_
 repeat'(first|refine gD ?_|(conv=>whnf);first|with_reducible refine Bf.D (λa=>?_) (λa=>?_)|refine C7 (fB _) ?_)
 exact U0 (λz=>[I z]) (by unfold slots;rw[C8 ω,C8 ω,C8 ω,C8 ω])
def K6(k b:Int):Bool:=decide (0<=k/\k<=3/\0<=b/\b<=lim k)
theorem pw(k b:Int):ar Tryz.prog 474 false [.val none [I (slots k)],.val none [I b]] .one [B (K6 k b)]:=by
 by_cases d:0<=k/\k<=3
 ·obtain rfl|rfl|rfl|rfl:k=0\/k=1\/k=2\/k=3:=ω
  all_goals
   first|rw[show slots 0=16 from rfl]|rw[show slots 1=8 from rfl]|rw[show slots 2=4 from rfl]|rw[show slots 3=2 from rfl]
   refine fO 15 [] Tryz.func474 rfl ?_
   repeat'(first|refine gD ?_|(conv=>whnf);first|with_reducible refine Bf.D (λa=>?_) (λa=>?_)|refine C7 (aF _ 1 16) ?_|refine C7 (aF _ 0 _) ?_|refine CN (by decide) ?_|refine CL (show _=(65536:Int) by decide) ?_|refine CL (show _=(65535:Int) by decide) ?_|refine CL (show _=(256:Int) by decide) ?_|refine CL (show _=(255:Int) by decide) ?_|refine CL (show _=(16:Int) by decide) ?_|refine CL (show _=(15:Int) by decide) ?_|refine CL (show _=(4:Int) by decide) ?_|refine CL (show _=(8:Int) by decide) ?_|refine CL (show _=(2:Int) by decide) ?_|refine CL (show _=(3:Int) by decide) ?_)
   all_goals exact U0 (λz=>[B z]) ((decide_eq_decide.2 (by simp[lim])))
 have c:slots k=0:=by unfold slots;rw[C8 ω,C8 ω,C8 ω,C8 ω]
 rw[c];refine fO 15 [] Tryz.func474 rfl ?_
 repeat'(first|refine gD ?_|(conv=>whnf);first|with_reducible refine Bf.D (λa=>?_) (λa=>?_)|refine C7 (aF _ 1 16) ?_)
 exact U0 (λz=>[B z]) ((by symm;exact R0 ω))
theorem xP(k b:Int):ar Tryz.prog 389 false [.val none [I (slots k)],.val none [I b]] .one [B (K6 k b)]:=by
 by_cases d:0<=k/\k<=3
 ·obtain rfl|rfl|rfl|rfl:k=0\/k=1\/k=2\/k=3:=ω
  all_goals
   first|rw[show slots 0=16 from rfl]|rw[show slots 1=8 from rfl]|rw[show slots 2=4 from rfl]|rw[show slots 3=2 from rfl]
   refine fO 14 [] Tryz.func389 rfl ?_
   repeat'(first|refine gD ?_|(conv=>whnf);first|with_reducible refine Bf.D (λa=>?_) (λa=>?_)|refine C7 (aO _ 1 16) ?_|refine C7 (aO _ 0 _) ?_|refine CN (by decide) ?_|refine CL (eE (by decide) (by decide)) ?_)
   all_goals exact U0 (λz=>[B z]) ((decide_eq_decide.2 (by simp[lim,IntKind.bits])))
 have c:slots k=0:=by unfold slots;rw[C8 ω,C8 ω,C8 ω,C8 ω]
 rw[c];refine fO 14 [] Tryz.func389 rfl ?_
 repeat'(first|refine gD ?_|(conv=>whnf);first|with_reducible refine Bf.D (λa=>?_) (λa=>?_)|refine C7 (aO _ 1 16) ?_)
 exact U0 (λz=>[B z]) ((by symm;exact R0 ω))
theorem gi(s:ax):ar Tryz.prog 366 false [.val (some 3) (ax.enc .X s)] .one [B (bg s)]:=by
 refine fO 14 [(1,12,[3,4,5,6,7,8,9,10,11,12,13,2])] Tryz.func366 rfl ?_
 repeat'(first|refine gO ?_|(conv=>whnf);first|with_reducible refine Bf.D (λa=>?_) (λa=>?_)|refine C7 (aF _ 0 31) ?_|refine C7 (mX _) ?_|refine C7 (pw _ _) ?_)
 all_goals exact U0 (λz=>[B z]) ((by unfold bg;first|(symm;exact R0 ω)|exact decide_eq_decide.2 ω))
theorem jC(s:ax):ar Tryz.prog 240 false [.val (some 3) (ax.enc .X s)] .one [B (bg s)]:=by
 refine fO 19 [(1,17,[3,4,5,6,7,8,9,10,11,12,13,14,15,16,17,18,2])] Tryz.func240 rfl ?_
 repeat'(first|refine gO ?_|(conv=>whnf);first|with_reducible refine Bf.D (λa=>?_) (λa=>?_)|refine C7 (aO _ 0 31) ?_|refine C7 (fB _) ?_|refine C7 (ix _) ?_|refine C7 (xP _ _) ?_)
 all_goals exact U0 (λz=>[B z]) ((by unfold bg;first|(symm;exact R0 ω)|exact decide_eq_decide.2 ω))
section
variable{α:Type}{xs:List α}{p:α->Bool}{i:Nat}{y:α}
theorem AX(h:xs[i]? = some y)(a:p y=true):xs.any p=true:=V3.2 ⟨y,U1 h,a⟩
theorem vh(h:xs[i]? = some y)(a:(xs.take i).any p=false)(b:p y=false):(xs.take (i+1)).any p=false:=by
 rw[I5,h,List.any_append,a];simp[b]
theorem G5(a:xs.length<=i)(b:(xs.take i).any p=false):xs.any p=false:=by
 rwa [U6 a]at b
theorem fZ[Inhabited α](a:0<i)(b:i<xs.length):xs[((i:Int) - 1).toNat]? = some (nth xs (i - 1)):=by
 rw[show((i:Int) - 1).toNat=i - 1 by omega];exact ao ω
end
theorem vU{pages:Int}{xs:List aA}{i n:Nat}(a:cR n (fX pages xs)=true)(b:i<n):1<=(nth xs i).b0/\(nth xs i).b0<=pages/\0<=(nth xs i).At/\(nth xs i).At<=pages - (nth xs i).b0:=by
 have:=dC a b;unfold fX rangeIn at this;simp only[I0,C0]at this;exact this.1
theorem l8(pages:Int)(xs:List aA)(e:0<=pages/\pages<=1048576)(k:iT xs):ar Tryz.prog 224 false [.val none [I pages],.val none (bO .X xs)] .one [B (b9 pages xs)]:=by
 have n:=k.1;refine fO 46 [(4,32,[12,13,14,15,16,17,18,19,20,21,22,23,24,25,26,27,28,29,30,31,32,33,34,35,36,37,38,39,40,41,42,43])] Tryz.func224 rfl ?_
 repeat'(first|refine gO ?_|fail)
 (conv=>whnf)
 refine CE (ι:=Nat) (λi=>[(0,.H .one [I (pages)]),(1,.H .one (bO .X xs)),(5,.H .one [I ((i:Nat):Int)])]) (λi=>i<=xs.length/\cR i (fX pages xs)=true) (λi=>xs.length - i) 0 ?_ ⟨T0 _,rfl⟩ λi g=>?_
 ·exact wB
 obtain⟨g,d⟩:=g;by_cases c:i<xs.length
 ·have j:=ao c
  have o:0<i->1<=(nth xs (i - 1)).b0/\(nth xs (i - 1)).b0<=pages/\0<=(nth xs (i - 1)).At/\(nth xs (i - 1)).At<=pages - (nth xs (i - 1)).b0:=λh=>vU d ω
  cases a:rangeIn pages (nth xs i) with
  | false=>
   have b:=vP pages (nth xs i) e;rw[a]at b
   repeat'(first|refine gD ?_|(conv=>whnf);first|with_reducible refine CC (aa j) ?_|refine C7 b ?_)
   exact U0 (λz=>[B z]) ((by symm;unfold b9;rw[cu c (by unfold fX;rw[a];rfl)];rfl))
  | true=>
   have b:=vP pages (nth xs i) e;rw[a]at b
   repeat'(first|refine gD ?_|(conv=>whnf);first|with_reducible (first|refine CC (aa j) ?_|refine Bf.D (λl=>?_) (λl=>?_))|refine C7 b ?_|refine CM ω (aa (fZ ω c)) ?_)
   all_goals first
    | exact U0 (λz=>[B z]) ((by symm;unfold b9;rw[cu c (by unfold fX;rw[a,R0 ω];rfl)];rfl))
    | ((conv=>whnf);refine CD (i+1) ⟨ω,bN d (by unfold fX;rw[a,O0 ω];rfl)⟩ ω ?_;(exact wB))
 repeat'(first|refine gD ?_|(conv=>whnf);first|refine C7 (aF pages 1 32) ?_)
 obtain rfl:i=xs.length:=ω
 exact U0 (λz=>[B z]) ((by unfold b9;rw[d];rfl))
theorem yc(pages:Int)(xs:List aA)(j:0<=pages/\pages<=1048576)(k:iT xs):ar Tryz.prog 72 false [.val none [I pages],.val none (bO .X xs)] .one [B (b9 pages xs)]:=by
 have n:=k.1;refine fO 43 [(4,26,[14,15,16,17,18,19,20,21,22,23,24,25,26,27,28,29,30,31,32,33,34,35,36,37,38,39])] Tryz.func72 rfl ?_
 repeat'(first|refine gO ?_|fail)
 (conv=>whnf)
 refine CE (ι:=Nat) (λi=>[(0,.H .one [I (pages)]),(1,.H .one (bO .X xs)),(7,.H .one (bO .X xs)),(8,.H .one [I (xs.length)]),(9,.H .one [I ((i:Nat):Int)])]) (λi=>i<=xs.length/\cR i (fX pages xs)=true) (λi=>xs.length - i) 0 ?_ ⟨T0 _,rfl⟩ λi e=>?_
 ·exact wB
 obtain⟨e,d⟩:=e;by_cases b:i<xs.length
 ·have g:=ao b
  have o:0<i->1<=(nth xs (i - 1)).b0/\(nth xs (i - 1)).b0<=pages/\0<=(nth xs (i - 1)).At/\(nth xs (i - 1)).At<=pages - (nth xs (i - 1)).b0:=λh=>vU d ω
  have c:=EY pages (nth xs i) j;cases a:rangeIn pages (nth xs i) with
  | false=>
   rw[a]at c
   repeat'(first|refine gD ?_|(conv=>whnf);first|with_reducible refine CC (aa g) ?_|refine C7 c ?_)
   exact U0 (λz=>[B z]) ((by symm;unfold b9;rw[cu b (by unfold fX;rw[a];rfl)];rfl))
  | true=>
   rw[a]at c
   repeat'(first|refine gD ?_|(conv=>whnf);first|with_reducible (first|refine CC (aa g) ?_|refine Bf.D (λl=>?_) (λl=>?_))|refine C7 c ?_|refine CM ω (aa (fZ ω b)) ?_)
   all_goals first
    | exact U0 (λz=>[B z]) ((by symm;unfold b9;rw[cu b (by unfold fX;rw[a,R0 ω];rfl)];rfl))
    | ((conv=>whnf);refine CD (i+1) ⟨ω,bN d (by unfold fX;rw[a,O0 ω];rfl)⟩ ω ?_;(exact wB))
 repeat'(first|refine gD ?_|(conv=>whnf);first|refine C7 (aO pages 1 32) ?_)
 obtain rfl:i=xs.length:=ω
 exact U0 (λz=>[B z]) ((by unfold b9;rw[d];rfl))
theorem xC(xs:List aA)(page:Int)(g:xs.length<=9223372036854775807):ar Tryz.prog 370 false [.val none (bO .X xs),.val none [I page]] .one [B (xs.any (pX page))]:=by
 refine fO 34 [(4,22,[12,13,14,15,16,17,18,19,20,21,22,23,24,25,26,27,28,29,30,31,32,33])] Tryz.func370 rfl ?_
 repeat'(first|refine gO ?_|fail)
 (conv=>whnf)
 refine CE (ι:=Nat) (λi=>[(0,.H .one (bO .X xs)),(1,.H .one [I (page)]),(5,.H .one [I ((i:Nat):Int)])]) (λi=>i<=xs.length/\(xs.take i).any (pX page)=false) (λi=>xs.length - i) (0) ?_ (⟨T0 _,rfl⟩) λi b=>?_
 ·exact wB
 obtain⟨b,c⟩:=b;by_cases d:i<xs.length
 ·have a:=ao d
  repeat'(first|refine gD ?_|(conv=>whnf);first|with_reducible (first|refine CC (aa a) ?_|refine Bf.D (λe=>?_) (λe=>?_))|refine CL rfl ?_)
  all_goals first
   | exact U0 (λz=>[B z]) ((AX a (by unfold pX;rw[O0 (by assumption),O0 (by assumption)];rfl)).symm)
   | ((conv=>whnf);refine CD (i+1) ⟨ω,vh a c (by unfold pX;first|(rw[R0 (by assumption:¬(nth xs i).At<=page)];rfl)|(rw[R0 (by assumption:¬page<_)];simp))⟩ ω ?_;(exact wB))
 repeat'(first|refine gD ?_|fail)
 exact U0 (λz=>[B z]) ((G5 ω c).symm)
theorem tdiv16{z:Int}(h:0<=z):z.tdiv 16=z / 16:=Int.tdiv_eq_ediv_of_nonneg h
theorem lF(z:Int):ar Tryz.prog 384 false [.val none [I z]] .one [I (fj z)]:=by
 refine fO 10 [] Tryz.func384 rfl ?_;by_cases b:9<=z/\z<=1000
 ·repeat'(first|refine gD ?_|(conv=>whnf);first|with_reducible refine Bf.D (λa=>?_) (λa=>?_)|refine C7 (aF z 9 1000) ?_|refine CN (by decide) ?_|refine CL ((U0 _ (tdiv16 ω)).trans (eE ω ω)) ?_)
  all_goals exact U0 (λz=>[I z]) (by unfold fj;rw[C9 b];omega)
 repeat'(first|refine gD ?_|(conv=>whnf);first|with_reducible refine Bf.D (λa=>?_) (λa=>?_)|refine C7 (aF z 9 1000) ?_)
 all_goals exact U0 (λz=>[I z]) (by unfold fj;rw[C8 b])
theorem yf(z:Int):ar Tryz.prog 206 false [.val none [I z]] .one [I (fj z)]:=by
 refine fO 10 [] Tryz.func206 rfl ?_;by_cases b:9<=z/\z<=1000
 ·repeat'(first|refine gD ?_|(conv=>whnf);first|with_reducible refine Bf.D (λa=>?_) (λa=>?_)|refine C7 (aO z 9 1000) ?_|refine CN (by decide) ?_|refine CL ((U0 _ (tdiv16 ω)).trans (eE ω ω)) ?_)
  all_goals exact U0 (λz=>[I z]) (by unfold fj;rw[C9 b];omega)
 repeat'(first|refine gD ?_|(conv=>whnf);first|with_reducible refine Bf.D (λa=>?_) (λa=>?_)|refine C7 (aO z 9 1000) ?_)
 all_goals exact U0 (λz=>[I z]) (by unfold fj;rw[C8 b])
theorem mJ(l:a8):ar Tryz.prog 368 false [.val (some 3) (a8.enc .X l)] .one [B (bE l)]:=by
 have b:=lF l.o;by_cases c:9<=l.o/\l.o<=1000
 ·rw[show fj l.o=(l.o+15) / 16 from C9 c]at b
  refine fO 22 [] Tryz.func368 rfl ?_
  repeat'(first|refine gO ?_|(conv=>whnf);first|with_reducible (first|refine Bf.D (λa=>?_) (λa=>?_)|refine Bf.E (λa=>?_) (λa=>?_))|refine C7 b ?_|refine C7 (aF _ 0 _) ?_)
  all_goals exact U0 (λz=>[B z]) ((by unfold bE;first|(symm;exact R0 ω)|exact decide_eq_decide.2 ω))
 rw[show fj l.o=0 from C8 c]at b;refine fO 22 [] Tryz.func368 rfl ?_
 repeat'(first|refine gD ?_|(conv=>whnf);first|with_reducible refine Bf.D (λa=>?_) (λa=>?_)|refine C7 b ?_)
 all_goals exact U0 (λz=>[B z]) ((by unfold bE;symm;exact R0 ω))
theorem qS(l:a8):ar Tryz.prog 241 false [.val (some 3) (a8.enc .X l)] .one [B (bE l)]:=by
 have b:=yf l.o;by_cases c:9<=l.o/\l.o<=1000
 ·rw[show fj l.o=(l.o+15) / 16 from C9 c]at b
  refine fO 22 [(1,20,[3,4,5,6,7,8,9,10,11,12,13,14,15,16,17,18,19,20,21,2])] Tryz.func241 rfl ?_
  repeat'(first|refine gD ?_|(conv=>whnf);first|with_reducible (first|refine Bf.D (λa=>?_) (λa=>?_)|refine Bf.E (λa=>?_) (λa=>?_))|refine C7 b ?_|refine C7 (aO _ 9 1000) ?_|refine C7 (aO _ 0 _) ?_)
  all_goals exact U0 (λz=>[B z]) ((by unfold bE;first|(symm;exact R0 ω)|exact decide_eq_decide.2 ω))
 refine fO 22 [(1,20,[3,4,5,6,7,8,9,10,11,12,13,14,15,16,17,18,19,20,21,2])] Tryz.func241 rfl ?_
 repeat'(first|refine gD ?_|(conv=>whnf);first|with_reducible refine Bf.D (λa=>?_) (λa=>?_)|refine C7 (aO _ 9 1000) ?_)
 all_goals exact U0 (λz=>[B z]) ((by unfold bE;symm;exact R0 ω))
theorem mP{z:Int}(h:0<=z/\z<=9223372036854775807):(BitVec.ofInt IntKind.i64.bits z).toNat=z.toNat:=by
 show(BitVec.ofInt 64 z).toNat=z.toNat;rw[BitVec.toNat_ofInt]
 congr 1
 exact Int.emod_eq_of_lt h.1 (by show z<((2 ^ 64:Nat):Int);have:=h.2;norm_cast;omega)
theorem and64{z1 z2:Int}(h1:0<=z1/\z1<=9223372036854775807)(a:0<=z2/\z2<=9223372036854775807):IntKind.i64.wrap ((BitVec.ofInt IntKind.i64.bits z1 &&& BitVec.ofInt IntKind.i64.bits z2).toNat:Nat)=((z1.toNat &&& z2.toNat:Nat):Int):=by
 rw[BitVec.toNat_and,mP h1,mP a];have:z1.toNat &&& z2.toNat<=z1.toNat:=Nat.and_le_left;exact eE ω ω
theorem FP(k:Int):lim k<=65535:=by
 unfold lim
 (repeat' split)<;>decide
theorem fy{s:ax}(h:bg s=true):0<=s.b1/\s.b1<=9223372036854775807:=by
 unfold bg at h;simp only[C0]at h;have:=FP s.b;omega
theorem lw(b c:ax):ar Tryz.prog 371 false [.val (some 3) (ax.enc .X b),.val (some 3) (ax.enc .X c)] .one [B (meshable b c)]:=by
 have g:=gi b;have h:=gi c;cases d:bg b<;>rw[d]at g<;>cases e:bg c<;>rw[e]at h
 all_goals
  refine fO 33 [] Tryz.func371 rfl ?_
  repeat'(first|refine gO ?_|(conv=>whnf);first|with_reducible (first|refine Bf.D (λa=>?_) (λa=>?_)|refine Bf.N (λa=>?_) (λa=>?_)|refine Bf.E (λa=>?_) (λa=>?_))|refine C7 g ?_|refine C7 h ?_|refine CL (and64 (fy d) (fy e)) ?_)
  all_goals exact U0 (λz=>[B z]) ((by unfold meshable;rw[d,e];first|rfl|(symm;exact R0 ω)|(rw[U4];simp;omega)))
theorem xY(b c:ax):ar Tryz.prog 244 false [.val (some 3) (ax.enc .X b),.val (some 3) (ax.enc .X c)] .one [B (meshable b c)]:=by
 have g:=jC b;have h:=jC c;cases d:bg b<;>rw[d]at g<;>cases e:bg c<;>rw[e]at h
 all_goals
  refine fO 33 [] Tryz.func244 rfl ?_
  repeat'(first|refine gO ?_|(conv=>whnf);first|with_reducible (first|refine Bf.D (λa=>?_) (λa=>?_)|refine Bf.N (λa=>?_) (λa=>?_)|refine Bf.E (λa=>?_) (λa=>?_))|refine C7 g ?_|refine C7 h ?_|refine CL (and64 (fy d) (fy e)) ?_)
  all_goals exact U0 (λz=>[B z]) ((by unfold meshable;rw[d,e];first|rfl|(symm;exact R0 ω)|(rw[U4];simp;omega)))
theorem H8(k:Int):ar Tryz.prog 394 false [.val none [I k]] .one [B (decide (0<=k/\k<=15))]:=by
 refine fO 5 [] Tryz.func394 rfl ?_
 repeat'(first|refine gO ?_|(conv=>whnf);first|refine C7 (aO k 0 15) ?_)
 rfl
theorem tB(p:cM)(e:cM.sml p):ar Tryz.prog 379 false [.val (some 3) (cM.enc .X p)] .one [B (ew p)]:=by
 have h:p.S.length<=1048576:=e;refine fO 51 [(4,25,[11,12,13,14,15,16,17,18,19,20,21,22,23,24,25,26,27,28,29,30,31,32,33,34,35])] Tryz.func379 rfl ?_
 repeat'(first|refine gO ?_|fail)
 (conv=>whnf)
 refine CE (ι:=Nat) (λi=>[(1,.H .box (cM.enc .X p)),(3,.H .one [I ((i:Nat):Int)])]) (λi=>i<=p.S.length/\cR i (lB p.S)=true) (λi=>p.S.length - i) 0 ?_ ⟨T0 _,rfl⟩ λi c=>?_
 ·exact wB
 obtain⟨c,d⟩:=c;by_cases b:i<p.S.length
 ·have g:=ao b
  repeat'(first|refine gD ?_|(conv=>whnf);first|with_reducible (first|refine CC (aa g) ?_|refine Bf.D (λa=>?_) (λa=>?_))|refine C7 (aF _ 0 15) ?_|refine CM ω (aa (fZ ω b)) ?_)
  all_goals first
   | exact U0 (λz=>[B z]) ((by symm;unfold ew;rw[cu b (R0 ω)];rfl))
   | ((conv=>whnf);refine CD (i+1) ⟨ω,bN d (O0 ω)⟩ ω ?_;(exact wB))
 obtain rfl:i=p.S.length:=ω
 repeat'(first|refine gD ?_|(conv=>whnf);first|with_reducible (first|refine Bf.D (λa=>?_) (λa=>?_)|refine Bf.NB (λa=>?_) (λa=>?_)|refine Bf.N (λa=>?_) (λa=>?_))|refine C7 (aF _ 0 31) ?_)
 all_goals exact U0 (λz=>[B z]) ((by unfold ew;rw[d];simp only[Bool.true_and];first|(symm;exact R0 ω)|exact decide_eq_decide.2 ω|(rw[U4];simp;omega)))
theorem Ei(p:cM)(e:cM.sml p):ar Tryz.prog 251 false [.val (some 3) (cM.enc .X p)] .one [B (ew p)]:=by
 have h:p.S.length<=1048576:=e;refine fO 46 [] Tryz.func251 rfl ?_
 repeat'(first|refine gO ?_|fail)
 (conv=>whnf)
 refine CE (ι:=Nat) (λi=>[(1,.H .box (cM.enc .X p)),(6,.H .one (aG .X p.S)),(7,.H .one [I (p.S.length)]),(8,.H .one [I ((i:Nat):Int)])]) (λi=>i<=p.S.length/\cR i (lB p.S)=true) (λi=>p.S.length - i) 0 ?_ ⟨T0 _,rfl⟩ λi c=>?_
 ·exact wB
 obtain⟨c,d⟩:=c;by_cases b:i<p.S.length
 ·have g:=ao b
  repeat'(first|refine gD ?_|(conv=>whnf);first|with_reducible (first|refine CC (aa g) ?_|refine Bf.D (λa=>?_) (λa=>?_))|refine C7 (H8 _) ?_|refine CM ω (aa (fZ ω b)) ?_)
  all_goals first
   | exact U0 (λz=>[B z]) ((by symm;unfold ew;rw[cu b (R0 ω)];rfl))
   | ((conv=>whnf);refine CD (i+1) ⟨ω,bN d (O0 ω)⟩ ω ?_;(exact wB))
 obtain rfl:i=p.S.length:=ω
 repeat'(first|refine gD ?_|(conv=>whnf);first|with_reducible (first|refine Bf.D (λa=>?_) (λa=>?_)|refine Bf.NB (λa=>?_) (λa=>?_)|refine Bf.N (λa=>?_) (λa=>?_))|refine C7 (aO _ 0 31) ?_)
 all_goals exact U0 (λz=>[B z]) ((by unfold ew;rw[d];simp only[Bool.true_and];first|(symm;exact R0 ω)|exact decide_eq_decide.2 ω|(rw[U4];simp;omega)))
theorem vm(j:cK)(a:cK.sml j):ar Tryz.prog 233 false [.val (some 5) (cK.enc .X j)] .one [B (jx j)]:=by
 have e:j.W.S.length<=1048576:=a;have b:=tB j.W a;cases c:ew j.W<;>rw[c]at b
 all_goals
  refine fO 20 [] Tryz.func233 rfl ?_
  repeat'(first|refine gO ?_|(conv=>whnf);first|with_reducible refine Bf.D (λd=>?_) (λd=>?_)|refine C7 b ?_|refine C7 (aF _ 0 5) ?_|refine C7 (aF _ 0 _) ?_)
  all_goals exact U0 (λz=>[B z]) ((by unfold jx;rw[c];first|rfl|(symm;exact R0 ω)|(rw[U4];simp;omega)))
theorem Fd(j:cK)(a:cK.sml j):ar Tryz.prog 81 false [.val (some 5) (cK.enc .X j)] .one [B (jx j)]:=by
 have e:j.W.S.length<=1048576:=a;have b:=Ei j.W a;cases c:ew j.W<;>rw[c]at b
 all_goals
  refine fO 20 [] Tryz.func81 rfl ?_
  repeat'(first|refine gO ?_|(conv=>whnf);first|with_reducible refine Bf.D (λd=>?_) (λd=>?_)|refine C7 b ?_|refine C7 (aO _ 0 5) ?_|refine C7 (aO _ 0 _) ?_)
  all_goals exact U0 (λz=>[B z]) ((by unfold jx;rw[c];first|rfl|(symm;exact R0 ω)|(rw[U4];simp;omega)))
theorem ko(l:a8)(k:Nat):lpgs l (k+1)=lpgs l k++[l.Q+(k:Nat)]:=by
 unfold lpgs;rw[List.range_succ,R5];rfl
theorem B7(l:a8)(k:Nat):(lpgs l k).length=k:=by unfold lpgs;simp
theorem Lc(l:a8){k n:Nat}(h:k<=n):lpgs l k <+: lpgs l n:=by
 induction n with
 | zero=>
  obtain rfl:k=0:=ω
  exact List.prefix_refl _
 | succ n b=>
  rcases Nat.lt_or_ge n k with a|a
  ·obtain rfl:k=n+1:=ω
   exact List.prefix_refl _
  rw[ko];exact(b a).trans (List.prefix_append ..)
theorem nS(sp:List ax){la:List a8}{i:Nat}{l:a8}(h:la[i]? = some l):pgs sp (la.take (i+1))=pgs sp (la.take i)++lpgs l l.a2.toNat:=by
 unfold pgs;rw[I5,h,List.flatMap_append];simp
theorem Nh(sp:List ax)(la:List a8)(i:Nat):pgs sp (la.take i) <+: pgs sp la:=by
 unfold pgs;refine(List.prefix_append_right_inj _).2 ?_
 conv=>rhs;rw[<-List.take_append_drop i la,List.flatMap_append]
 exact List.prefix_append ..
theorem Mp{S all:List Int}{p:Int}(h:(S++[p]) <+: all)(b:p∈S):decide all.Nodup=false:=by
 refine R0 λc=>?_
 have a:=c.sublist h.sublist;rw[List.nodup_append]at a;exact a.2.2 p b p (by simp) rfl
theorem ky{S:List Int}{p:Int}(h:S.Nodup)(b:p∉S):(S++[p]).Nodup:=by
 rw[List.nodup_append];exact⟨h,by simp,λx c y a e=>by simp at a;subst a;subst e;exact b c⟩
theorem Ej{sp:List ax}{la:List a8}{i:Nat}{s:ax}(h:sp[i]? = some s):((sp.take i).map (·.Q)++[s.Q]) <+: pgs sp la:=by
 have a:(sp.take i).map (·.Q)++[s.Q]=(sp.take (i+1)).map (·.Q):=by rw[I5,h];simp
 rw[a];refine List.IsPrefix.trans ?_ (List.prefix_append ..);rw[Y3];exact List.take_prefix ..
theorem zr{sp:List ax}{la:List a8}{i k:Nat}{l:a8}(h:la[i]? = some l)(a:k<l.a2.toNat):(pgs sp (la.take i)++lpgs l k++[l.Q+(k:Nat)]) <+: pgs sp la:=by
 refine List.IsPrefix.trans ?_ (Nh sp la (i+1));rw[nS sp h,O5,<-ko];exact(List.prefix_append_right_inj _).2 (Lc l a)
theorem pJ{sp:List ax}{la:List a8}{i:Nat}{s:ax}(h:sp[i]? = some s)(a:bg s=false):bk sp la=false:=by
 unfold bk;rw[eI h a];rfl
theorem nJ{sp:List ax}{la:List a8}{i:Nat}{l:a8}(h:la[i]? = some l)(a:bE l=false):bk sp la=false:=by
 unfold bk;rw[eI h a];simp
theorem kj{sp:List ax}{la:List a8}{S:List Int}{p:Int}(h:(S++[p]) <+: pgs sp la)(a:p∈S):bk sp la=false:=by
 unfold bk;rw[Mp h a];simp
theorem qZ{sp:List ax}{la:List a8}(h1:sp.all bg=true)(a:la.all bE=true)(b:(pgs sp la).Nodup):bk sp la=true:=by
 unfold bk;rw[h1,a,O0 b];rfl
theorem aM{l:a8}(h:bE l=true):1<=l.a2/\l.a2<=63/\0<=l.Q/\l.Q<=31:=by
 unfold bE at h;simp only[C0]at h;omega
theorem lG(sp:List ax)(la:List a8)(t:d8 sp)(u:d9 la):ar Tryz.prog 225 false [.val none (cz .X sp),.val none (co .X la)] .one [B (bk sp la)]:=by
 have J:=t.1;have K:=u.1;refine fO 79 [] Tryz.func225 rfl ?_
 repeat'(first|refine gO ?_|fail)
 (conv=>whnf)
 refine CE (ι:=Nat × List Int) (λi=>[(0,.H .one (cz .X sp)),(1,.H .one (co .X la)),(5,.H .one (aG .own i.2)),(6,.H .one [I ((i.1:Nat):Int)])]) (λi=>i.1<=sp.length/\i.2=(sp.take i.1).map (·.Q)/\(sp.take i.1).all bg=true/\i.2.Nodup) (λi=>sp.length - i.1) ((0,[])) ?_ (⟨T0 _,rfl,rfl,List.nodup_nil⟩) λi p=>?_
 ·exact wB
 obtain⟨i,S⟩:=i;obtain⟨p,o,h,l⟩:=p;simp only at p o h l |-;have L:S.length=i:=by rw[o,X0,O1];omega
 by_cases w:i<sp.length
 ·have a:=ao w
  have n:=gi (nth sp i);cases j:bg (nth sp i)<;>rw[j]at n
  ·repeat'(first|refine gD ?_|(conv=>whnf);first|with_reducible refine CC (aa a) ?_|refine C7 n ?_)
   exact U0 (λz=>[B z]) ((pJ a j).symm)
  repeat'(first|refine gD ?_|(conv=>whnf);first|with_reducible (first|refine CC (aa a) ?_|refine Bf.D (λy=>?_) (λy=>?_))|refine C7 n ?_|refine CG (lS S _ ω) ⟨⟨rfl,eN _⟩,⟨rfl,rfl⟩,trivial⟩ ?_|refine CT cI (λr E=>by rw[C1.1 E];rfl) (by simp[aX,dU]) (by simp;omega) (by simp only[X0];exact yM (by simp;omega) (by decide)) rfl ?_)
  all_goals first
   | exact U0 (λz=>[B z]) ((kj (S:=S) (by rw[o];exact Ej a) (by assumption)).symm)
   | ((conv=>whnf)
      refine CD (i+1,S++[(nth sp i).Q]) ⟨(by simp only;omega),(by simp only;rw[o,I5,a];simp),(cP a h j),ky l (by assumption)⟩ (by simp only;omega) ?_
      (repeat'(first|exact trivial|rfl|exact CK rfl (CK (U0 (C.s dK.own) (by simp[rI])) trivial)|refine CK ?_ ?_)))
 obtain rfl:i=sp.length:=ω
 rw[X4]at h o
 repeat'(first|refine gD ?_|fail)
 (conv=>whnf)
 refine CE (ι:=Nat × List Int) (λi=>[(1,.H .one (co .X la)),(5,.H .one (aG .own i.2)),(7,.H .one [I ((i.1:Nat):Int)])]) (λi=>i.1<=la.length/\i.2=pgs sp (la.take i.1)/\(la.take i.1).all bE=true/\i.2.Nodup/\i.2.length<=1048576+64*i.1) (λi=>la.length - i.1) ((0,S)) ?_ (⟨T0 _,by rw[o];unfold pgs;simp,rfl,l,by simp only;omega⟩) λi p=>?_
 ·exact wB
 obtain⟨i,S2⟩:=i;obtain⟨F,c,b,d,G⟩:=p;simp only at F c b d G |-;by_cases w:i<la.length
 ·have a:=ao w
  have n:=mJ (nth la i);cases j:bE (nth la i)<;>rw[j]at n
  ·repeat'(first|refine gD ?_|(conv=>whnf);first|with_reducible refine CC (aa a) ?_|refine C7 n ?_)
   exact U0 (λz=>[B z]) ((nJ a j).symm)
  have M:=aM j
  repeat'(first|refine gD ?_|(conv=>whnf);first|with_reducible refine CC (aa a) ?_|refine C7 n ?_)
  (conv=>whnf)
  refine CE (ι:=Nat × List Int) (λk=>[(1,.H .one (co .X la)),(5,.H .one (aG .own k.2)),(7,.H .one [I ((i:Nat):Int)]),(8,.H .one [I ((k.1:Nat):Int)])]) (λk=>k.1<=(nth la i).a2.toNat/\k.2=S2++lpgs (nth la i) k.1/\k.2.Nodup) (λk=>(nth la i).a2.toNat - k.1) ((0,S2)) ?_ (⟨T0 _,by simp[lpgs],d⟩) λk H=>?_
  ·exact wB
  obtain⟨k,q⟩:=k;obtain⟨H,e,g⟩:=H;simp only at H e g |-;have N:q.length=S2.length+k:=by rw[e,Z2,B7]
  by_cases O:k<(nth la i).a2.toNat
  ·repeat'(first|refine gD ?_|(conv=>whnf);first|with_reducible (first|refine CC (aa a) ?_|refine Bf.D (λy=>?_) (λy=>?_))|refine CG (lS q _ ω) ⟨⟨rfl,eN _⟩,⟨rfl,rfl⟩,trivial⟩ ?_|refine CT cI (λr E=>by rw[C1.1 E];rfl) (by simp[aX,dU]) (by simp;omega) (by show _*8<=_;simp;omega) rfl ?_)
   all_goals first
    | exact U0 (λz=>[B z]) ((kj (S:=q) (by rw[e,c];exact zr a O) (by assumption)).symm)
    | ((conv=>whnf)
       refine CD (k+1,q++[(nth la i).Q+(k:Nat)]) ⟨(by simp only;omega),(by simp only;rw[e,ko,O5]),ky g (by assumption)⟩ (by simp only;omega) ?_
       (repeat'(first|exact trivial|rfl|exact CK rfl (CK (U0 (C.s dK.own) (by simp[rI])) trivial)|refine CK ?_ ?_)))
  obtain rfl:k=(nth la i).a2.toNat:=ω
  repeat'(first|refine gD ?_|(conv=>whnf);first|with_reducible refine CC (aa a) ?_)
  ((conv=>whnf);refine CD (i+1,q) ⟨(by simp only;omega),(by simp only;rw[e,c,<-nS sp a]),(cP a b j),g,(by simp only;omega)⟩ (by simp only;omega) ?_;(exact wB))
 obtain rfl:i=la.length:=ω
 rw[X4]at b c
 repeat'(first|refine gD ?_|fail)
 exact U0 (λz=>[B z]) ((qZ h b (by rw[<-c];exact d)).symm)
def ins(S:List Int)(p:Int):List Int:=if p∈S then S else S++[p]
theorem Gm{p:Int} : ∀{S:List Int},p∈S->mput (f7 S) p (.bool true)=f7 S
 | x::S,h=>by
  simp only[f7,U5,mput];by_cases a:x=p
  ·rw[C9 a,a]
  rw[C8 a];have:=Gm (S:=S) ((List.mem_cons.1 h).resolve_left λe=>a e.symm);simp only[f7]at this;rw[this]
theorem vE(S:List Int)(p:Int):f7 (ins S p)=mput (f7 S) p (.bool true):=by
 unfold ins;split
 ·rw[Gm (by assumption)]
 rw[sF (by assumption)]
theorem Mb(S:List Int)(p:Int):aS Tryz.prog 239 false [.val none [I p],.ptr [.m (f7 S)]] [.val none [I p],.ptr [.m (f7 (ins S p))]] .one [B (decide (p∉S))]:=by
 refine fM 12 [] [] [(0,0),(0,0)] Tryz.func239 rfl (λu q=>?_)
 repeat'(first|refine gO ?_|(conv=>whnf);first|refine Ml.mk (mM p S) ?_|refine Mu.mk (vE S p) ?_)
 refine CF rfl ?_ ?_
 ·exact U0 (λz=>[B z]) (by simp)
 exact wB
theorem pu(sp:List ax)(la:List a8)(t:d8 sp)(u:d9 la):ar Tryz.prog 73 false [.val none (cz .X sp),.val none (co .X la)] .one [B (bk sp la)]:=by
 have F:=t.1;have G:=u.1;refine fP 54 [(239,[0,2])] [] Tryz.func73 rfl ?_
 repeat'(first|refine gO ?_|fail)
 (conv=>whnf)
 refine CE (ι:=Nat × List Int) (λi=>[(1,.H .one (co .X la)),(5,.H .box [.m (f7 i.2)]),(6,.fn 239 [5]),(14,.H .one (cz .X sp)),(15,.H .one [I (sp.length)]),(16,.H .one [I ((i.1:Nat):Int)])]) (λi=>i.1<=sp.length/\i.2=(sp.take i.1).map (·.Q)/\(sp.take i.1).all bg=true/\i.2.Nodup) (λi=>sp.length - i.1) ((0,[])) ?_ (⟨T0 _,rfl,rfl,List.nodup_nil⟩) λi p=>?_
 ·exact wB
 obtain⟨i,S⟩:=i;obtain⟨p,q,h,n⟩:=p;simp only at p q h n |-;by_cases w:i<sp.length
 ·have c:=ao w
  have o:=jC (nth sp i);cases l:bg (nth sp i)<;>rw[l]at o
  ·repeat'(first|refine gD ?_|(conv=>whnf);first|with_reducible refine CC (aa c) ?_|refine C7 o ?_)
   exact U0 (λz=>[B z]) ((pJ c l).symm)
  repeat'(first|refine gD ?_|(conv=>whnf);first|with_reducible (first|refine CC (aa c) ?_|refine Bf.D (λy=>?_) (λy=>?_))|refine C7 o ?_|refine CJ (Mb S _) (.inl rfl) ?_)
  all_goals first
   | exact U0 (λz=>[B z]) ((kj (S:=S) (by rw[q];exact Ej c) (by grind)).symm)
   |(have a:(nth sp i).Q∉S:=by assumption
     (conv=>whnf)
     refine CD (i+1,ins S (nth sp i).Q) ⟨(by simp only;omega),(by simp only;unfold ins;rw[C8 a,q,I5,c];simp),(cP c h l),(by simp only;unfold ins;rw[C8 a];exact ky n a)⟩ (by simp only;omega) ?_
     (exact wA))
 obtain rfl:i=sp.length:=ω
 rw[X4]at h q
 repeat'(first|refine gD ?_|fail)
 (conv=>whnf)
 refine CE (ι:=Nat × List Int) (λi=>[(5,.H .box [.m (f7 i.2)]),(6,.fn 239 [5]),(31,.H .one (co .X la)),(32,.H .one [I (la.length)]),(33,.H .one [I ((i.1:Nat):Int)])]) (λi=>i.1<=la.length/\i.2=pgs sp (la.take i.1)/\(la.take i.1).all bE=true/\i.2.Nodup) (λi=>la.length - i.1) ((0,S)) ?_ (⟨T0 _,by rw[q];unfold pgs;simp,rfl,n⟩) λi p=>?_
 ·exact wB
 obtain⟨i,S2⟩:=i;obtain⟨C,d,b,e⟩:=p;simp only at C d b e |-;by_cases w:i<la.length
 ·have c:=ao w
  have o:=qS (nth la i);cases l:bE (nth la i)<;>rw[l]at o
  ·repeat'(first|refine gD ?_|(conv=>whnf);first|with_reducible refine CC (aa c) ?_|refine C7 o ?_)
   exact U0 (λz=>[B z]) ((nJ c l).symm)
  have H:=aM l
  repeat'(first|refine gD ?_|(conv=>whnf);first|with_reducible refine CC (aa c) ?_|refine C7 o ?_)
  (conv=>whnf)
  refine CE (ι:=Nat × List Int) (λk=>[(5,.H .box [.m (f7 k.2)]),(6,.fn 239 [5]),(10,.H .box (a8.enc .X (nth la i))),(11,.H .one [I ((k.1:Nat):Int)]),(31,.H .one (co .X la)),(32,.H .one [I (la.length)]),(33,.H .one [I ((i:Nat):Int)])]) (λk=>k.1<=(nth la i).a2.toNat/\k.2=S2++lpgs (nth la i) k.1/\k.2.Nodup) (λk=>(nth la i).a2.toNat - k.1) ((0,S2)) ?_ (⟨T0 _,by simp[lpgs],e⟩) λk E=>?_
  ·exact wB
  obtain⟨k,r⟩:=k;obtain⟨E,j,g⟩:=E;simp only at E j g |-;by_cases J:k<(nth la i).a2.toNat
  ·repeat'(first|refine gD ?_|(conv=>whnf);first|with_reducible refine Bf.D (λy=>?_) (λy=>?_)|refine CJ (Mb r _) (.inl rfl) ?_)
   all_goals first
    | exact U0 (λz=>[B z]) ((kj (S:=r) (by rw[j,d];exact zr c J) (by grind)).symm)
    |(have a:(nth la i).Q+(k:Nat)∉r:=by assumption
      (conv=>whnf)
      refine CD (k+1,ins r ((nth la i).Q+(k:Nat))) ⟨(by simp only;omega),(by simp only;unfold ins;rw[C8 a,j,ko,O5]),(by simp only;unfold ins;rw[C8 a];exact ky g a)⟩ (by simp only;omega) ?_
      (exact wA))
  obtain rfl:k=(nth la i).a2.toNat:=ω
  repeat'(first|refine gD ?_|fail)
  ((conv=>whnf);refine CD (i+1,r) ⟨(by simp only;omega),(by simp only;rw[j,d,<-nS sp c]),(cP c b l),g⟩ (by simp only;omega) ?_;(exact wB))
 obtain rfl:i=la.length:=ω
 rw[X4]at b d
 repeat'(first|refine gD ?_|fail)
 exact U0 (λz=>[B z]) ((qZ h b (by rw[<-d];exact e)).symm)
theorem aC{s:ax}(h:bg s=true):0<=s.Q/\s.Q<=31/\0<=s.b/\s.b<=3:=by
 unfold bg at h;simp only[C0]at h;omega
theorem bM{k:Int}(h:0<=k/\k<=3):csz k=1\/csz k=2\/csz k=4\/csz k=8:=by
 obtain rfl|rfl|rfl|rfl:k=0\/k=1\/k=2\/k=3:=ω
 all_goals decide
theorem mj{x y:Int}(h:0<=x):x.tdiv y=x / y:=Int.tdiv_eq_ediv_of_nonneg h
theorem eR{x y:Int}(h:0<=x):x.tmod y=x % y:=Int.tmod_eq_emod_of_nonneg h
def S2(p:Int × Int):List C:=[I p.1,I p.2]
theorem zl{a b:Int}{p:Int × Int}(h:(a,b)=p):[I a,I b]=S2 p:=by subst h;rfl
theorem ug(s:ax)(a:Int)(k:mq a):ar Tryz.prog 476 false [.val (some 3) (ax.enc .X s),.val none [I a]] (.tup [none,none]) (S2 (iK s a)):=by
 have g:=gi s;have l:=dE s.b;obtain⟨n,o⟩:=k;cases b:bg s<;>rw[b]at g
 ·refine fO 33 [(4,12,[23,24,25,26,27,28,29,30,31,32,4,5])] Tryz.func476 rfl ?_ (.inr ⟨trivial,trivial,trivial⟩)
  repeat'(first|refine gO ?_|(conv=>whnf);first|refine C7 g ?_)
  exact zl (by unfold iK cq;rw[b];rfl)
 have h:=aC b;have i:=bM ⟨h.2.2.1,h.2.2.2⟩;by_cases c:16*s.Q<=a/\a<=16*s.Q+15
 ·have j:0<=a:=ω
  refine fO 33 [(4,12,[23,24,25,26,27,28,29,30,31,32,4,5])] Tryz.func476 rfl ?_ (.inr ⟨trivial,trivial,trivial⟩)
  repeat'(first|refine gD ?_|(conv=>whnf);first|with_reducible refine Bf.N (λd=>?_) (λd=>?_)|refine C7 g ?_|refine C7 l ?_|refine CN (by decide) ?_|refine CN ω ?_|refine CL ((U0 _ (mj j)).trans (eE ω ω)) ?_|refine CS (eR j) ?_|refine CL ((U0 _ (mj ω)).trans (eE (by rcases i with e|e|e|e<;>rw[e]<;>omega) (by rcases i with e|e|e|e<;>rw[e]<;>omega))) ?_|refine CS (eR ω) ?_)
  all_goals first
   |(exfalso;omega)
   |exact zl (by unfold iK cq;rw[b,O0 c];show _=((a - 16*s.Q) / csz s.b,(a - 16*s.Q) % csz s.b);rw[show a % 16=a - 16*s.Q by omega])
 refine fO 33 [(4,12,[23,24,25,26,27,28,29,30,31,32,4,5])] Tryz.func476 rfl ?_ (.inr ⟨trivial,trivial,trivial⟩)
 repeat'(first|refine gO ?_|(conv=>whnf);first|with_reducible (first|refine Bf.D (λd=>?_) (λd=>?_)|refine Bf.N (λd=>?_) (λd=>?_))|refine C7 g ?_|refine CN (by decide) ?_|refine CL ((U0 _ (mj ω)).trans (eE ω ω)) ?_)
 all_goals first
  |exact zl (by unfold iK cq;rw[b,R0 c];rfl)
  |(exfalso;omega)
theorem D4(s:ax)(a:Int):ar Tryz.prog 260 false [.val (some 3) (ax.enc .X s),.val none [I a]] (.tup [none,none]) (S2 (iK s a)):=by
 have d:=jC s;have j:=fp s.b;cases b:bg s<;>rw[b]at d
 ·refine fO 38 [(4,12,[28,29,30,31,32,33,34,35,36,37,4,5])] Tryz.func260 rfl ?_ (.inr ⟨trivial,trivial,trivial⟩)
  repeat'(first|refine gO ?_|(conv=>whnf);first|refine C7 d ?_)
  exact zl (by unfold iK cq;rw[b];rfl)
 have h:=aC b;have i:=bM ⟨h.2.2.1,h.2.2.2⟩;by_cases c:16*s.Q<=a/\a<=16*s.Q+15
 ·refine fO 38 [(4,12,[28,29,30,31,32,33,34,35,36,37,4,5])] Tryz.func260 rfl ?_ (.inr ⟨trivial,trivial,trivial⟩)
  repeat'(first|refine gD ?_|(conv=>whnf);first|with_reducible refine Bf.D (λg=>?_) (λg=>?_)|refine C7 d ?_|refine C7 j ?_|refine C7 (aO _ _ _) ?_|refine CN ω ?_|refine CL ((U0 _ (mj ω)).trans (eE (by rcases i with e|e|e|e<;>rw[e]<;>omega) (by rcases i with e|e|e|e<;>rw[e]<;>omega))) ?_|refine CS (eR ω) ?_)
  all_goals exact zl (by unfold iK cq;rw[b,O0 c];show _=((a - 16*s.Q) / csz s.b,(a - 16*s.Q) % csz s.b);rw[show a - s.Q*16=a - 16*s.Q by omega])
 refine fO 38 [(4,12,[28,29,30,31,32,33,34,35,36,37,4,5])] Tryz.func260 rfl ?_ (.inr ⟨trivial,trivial,trivial⟩)
 repeat'(first|refine gD ?_|(conv=>whnf);first|with_reducible refine Bf.D (λg=>?_) (λg=>?_)|refine C7 d ?_|refine C7 (aO _ _ _) ?_)
 all_goals exact zl (by unfold iK cq;rw[b,R0 c];rfl)
theorem oF(b i:Int):ar Tryz.prog 539 false [.val none [I b],.val none [I i]] .one [B (decide (0<=b/\0<=i/\i<=15))]:=by
 refine fO 11 [] Tryz.func539 rfl ?_
 repeat'(first|refine gO ?_|(conv=>whnf);first|with_reducible refine Bf.D (λa=>?_) (λa=>?_)|refine C7 (aF _ 0 15) ?_)
 all_goals exact U0 (λz=>[B z]) ((by first|(symm;exact R0 ω)|exact decide_eq_decide.2 ω))
theorem zv(b i:Int):ar Tryz.prog 396 false [.val none [I b],.val none [I i]] .one [B (decide (0<=b/\0<=i/\i<=15))]:=by
 refine fO 11 [] Tryz.func396 rfl ?_
 repeat'(first|refine gO ?_|(conv=>whnf);first|with_reducible refine Bf.D (λa=>?_) (λa=>?_)|refine C7 (aO _ 0 15) ?_)
 all_goals exact U0 (λz=>[B z]) ((by first|(symm;exact R0 ω)|exact decide_eq_decide.2 ω))
theorem JN{b i:Int}(a:0<=b/\b<=9223372036854775807)(e:0<=i/\i<=15):b.fdiv (2 ^ min i.toNat IntKind.i64.bits)=b / 2 ^ i.toNat/\0<=b / 2 ^ i.toNat/\b / 2 ^ i.toNat<=9223372036854775807:=by
 have d:min i.toNat IntKind.i64.bits=i.toNat:=Nat.min_eq_left (show i.toNat<=64 by omega);rw[d];have c:(0:Int)<=2 ^ i.toNat:=Int.pow_nonneg (by decide);refine⟨Int.fdiv_eq_ediv_of_nonneg _ c,Int.ediv_nonneg a.1 c,?_⟩;have:=Int.ediv_le_self (2 ^ i.toNat:Int) a.1;omega
theorem vD{b i:Int}(a:0<=b)(e:0<=i/\i<=15):((((b / 2 ^ i.toNat).toNat &&& (1:Int).toNat:Nat):Int) == 1)=aR b i:=by
 have c:(0:Int)<=b / 2 ^ i.toNat:=Int.ediv_nonneg a (Int.pow_nonneg (by decide));have d:(b / 2 ^ i.toNat).toNat &&& (1:Int).toNat=(b / 2 ^ i.toNat).toNat % 2:=Nat.and_one_is_mod _;rw[d];unfold aR;generalize b / 2 ^ i.toNat=q at c |-;rw[U4,beq_iff_eq,C0];omega
theorem i7(b i:Int)(c:b<=9223372036854775807):ar Tryz.prog 477 false [.val none [I b],.val none [I i]] .one [B (aR b i)]:=by
 by_cases h:0<=b/\0<=i/\i<=15
 ·obtain⟨d,g⟩:=JN (b:=b) (i:=i) ⟨h.1,c⟩ h.2
  have j:IntKind.u64.wrap i=i:=by unfold IntKind.wrap;simp[IntKind.signed,IntKind.bits];omega
  refine fO 16 [] Tryz.func477 rfl ?_
  repeat'(first|refine gD ?_|(conv=>whnf);first|with_reducible refine Bf.D (λa=>?_) (λa=>?_)|refine C7 (oF _ _) ?_|refine CN ω ?_|refine CL j ?_|refine CS d ?_|refine CL (and64 g ⟨by decide,by decide⟩) ?_)
  all_goals exact U0 (λz=>[B z]) ((vD h.1 h.2))
 refine fO 16 [] Tryz.func477 rfl ?_
 repeat'(first|refine gD ?_|(conv=>whnf);first|with_reducible refine Bf.D (λa=>?_) (λa=>?_)|refine C7 (oF _ _) ?_)
 all_goals exact U0 (λz=>[B z]) ((by unfold aR;symm;exact R0 λe=>h ⟨e.1,e.2.1,e.2.2.1⟩))
theorem rR(b i:Int)(c:b<=9223372036854775807):ar Tryz.prog 261 false [.val none [I b],.val none [I i]] .one [B (aR b i)]:=by
 by_cases h:0<=b/\0<=i/\i<=15
 ·obtain⟨d,g⟩:=JN (b:=b) (i:=i) ⟨h.1,c⟩ h.2
  refine fO 15 [] Tryz.func261 rfl ?_
  repeat'(first|refine gD ?_|(conv=>whnf);first|with_reducible refine Bf.D (λa=>?_) (λa=>?_)|refine C7 (zv _ _) ?_|refine CN ω ?_|refine CS d ?_|refine CL (and64 g ⟨by decide,by decide⟩) ?_)
  all_goals exact U0 (λz=>[B z]) ((vD h.1 h.2))
 refine fO 15 [] Tryz.func261 rfl ?_
 repeat'(first|refine gD ?_|(conv=>whnf);first|with_reducible refine Bf.D (λa=>?_) (λa=>?_)|refine C7 (zv _ _) ?_)
 all_goals exact U0 (λz=>[B z]) ((by unfold aR;symm;exact R0 λe=>h ⟨e.1,e.2.1,e.2.2.1⟩))
theorem cw{l:a8}(h:bE l=true):9<=l.o/\l.o<=1000/\0<=l.Q/\l.Q<=31:=by
 unfold bE at h;simp only[C0]at h;omega
theorem pE(l:a8)(a:Int):ar Tryz.prog 478 false [.val (some 3) (a8.enc .X l),.val none [I a]] .one [B (bn l a)]:=by
 have c:=mJ l;cases b:bE l<;>rw[b]at c
 ·refine fO 24 [] Tryz.func478 rfl ?_
  repeat'(first|refine gO ?_|(conv=>whnf);first|refine C7 c ?_)
  exact U0 (λz=>[B z]) ((by unfold bn;rw[b];rfl))
 have e:=cw b;refine fO 24 [] Tryz.func478 rfl ?_
 repeat'(first|refine gO ?_|(conv=>whnf);first|with_reducible refine Bf.D (λd=>?_) (λd=>?_)|refine C7 c ?_)
 all_goals exact U0 (λz=>[B z]) ((by unfold bn;rw[b,Bool.true_and];first|(symm;exact R0 ω)|exact decide_eq_decide.2 ω))
theorem p8(l:a8)(a:Int):ar Tryz.prog 259 false [.val (some 3) (a8.enc .X l),.val none [I a]] .one [B (bn l a)]:=by
 have c:=qS l;cases b:bE l<;>rw[b]at c
 ·refine fO 21 [] Tryz.func259 rfl ?_
  repeat'(first|refine gO ?_|(conv=>whnf);first|refine C7 c ?_)
  exact U0 (λz=>[B z]) ((by unfold bn;rw[b];rfl))
 have e:=cw b;refine fO 21 [] Tryz.func259 rfl ?_
 repeat'(first|refine gO ?_|(conv=>whnf);first|with_reducible refine Bf.D (λd=>?_) (λd=>?_)|refine C7 c ?_|refine C7 (aO _ _ _) ?_)
 all_goals exact U0 (λz=>[B z]) ((by unfold bn;rw[b,Bool.true_and];exact decide_eq_decide.2 ω))
theorem sB(l:a8)(a:Int)(h:bn l a=true):ar Tryz.prog 479 false [.val (some 3) (a8.enc .X l),.val none [I a]] .one [I (a - 16*l.Q)]:=by
 have b:=pE l a;rw[h]at b;unfold bn at h;simp only[I0,C0]at h;have c:=cw h.1;refine fO 14 [] Tryz.func479 rfl ?_
 repeat'(first|refine gO ?_|(conv=>whnf);first|refine C7 b ?_)
 exact U0 (λz=>[I z]) ω
theorem sM(l:a8)(a:Int)(h:bn l a=true):ar Tryz.prog 262 false [.val (some 3) (a8.enc .X l),.val none [I a]] .one [I (a - 16*l.Q)]:=by
 have b:=p8 l a;rw[h]at b;unfold bn at h;simp only[I0,C0]at h;have c:=cw h.1;refine fO 14 [] Tryz.func262 rfl ?_
 repeat'(first|refine gO ?_|(conv=>whnf);first|refine C7 b ?_)
 exact U0 (λz=>[I z]) ω
theorem oN{m:aK}{i:Nat}(a:i<m.U.length)(h:gv m i=false):bJ m=false:=by
 unfold bJ;rw[cu a h];simp
theorem vM{m:aK}(h:¬(1<=m.U.length/\m.U.length<=4/\m.a0.length=m.U.length)):bJ m=false:=by
 unfold bJ;rw[R0 h];rfl
theorem vt{m:aK}(h1:1<=m.U.length/\m.U.length<=4/\m.a0.length=m.U.length)(a:cR m.U.length (gv m)=true):bJ m=decide (bu m m.U.length<=30):=by
 unfold bJ;rw[O0 h1,a];rfl
theorem kW(m:aK)(h:aK.sml m):ar Tryz.prog 145 false [.val (some 2) (aK.enc .X m)] .one [B (bJ m)]:=by
 have u:m.U.length<=1048576:=h.1.1;have w:m.a0.length<=1048576:=h.2.1;by_cases n:1<=m.U.length/\m.U.length<=4/\m.a0.length=m.U.length
 ·refine fO 92 [(19,15,[75,76,77,78,79,80,81,82,83,84,85,86,87,88,89])] Tryz.func145 rfl ?_
  repeat'(first|refine gA ?_|(conv=>whnf);first|with_reducible (first|refine Bf.D (λa=>?_) (λa=>?_)|refine Bf.N (λa=>?_) (λa=>?_))|refine C7 (aF _ 1 4) ?_)
  (conv=>whnf)
  refine CE (ι:=Nat) (λi=>[(1,.H .box (aK.enc .X m)),(3,.H .one [I (m.U.length)]),(4,.H .one [I (bu m i)]),(5,.H .one [I ((i:Nat):Int)])]) (λi=>i<=m.U.length/\cR i (gv m)=true/\0<=bu m i/\bu m i<=2097152*i) (λi=>m.U.length - i) (0) ?_ (⟨T0 _,rfl,by simp[bu],by simp[bu]⟩) λi o=>?_
  ·exact wB
  obtain⟨o,p,G,H⟩:=o;by_cases j:i<m.U.length
  ·have l:=ao j
   have q:=ao (xs:=m.a0) (i:=i) ω;have y:(nth m.U i).length<=1048576:=(h.1.2 _ (am j)).1;have C:(nth m.a0 i).length<=1048576:=h.2.2 _ (am ω)
   repeat'(first|refine gD ?_|fail)
   (conv=>whnf)
   refine CE (ι:=Nat) (λk=>[(1,.H .box (aK.enc .X m)),(3,.H .one [I (m.U.length)]),(4,.H .one [I (bu m i)]),(5,.H .one [I ((i:Nat):Int)]),(6,.H .one [I ((k:Nat):Int)])]) (λk=>k<=(nth m.U i).length/\((nth m.U i).take k).all (mz m.U.length)=true) (λk=>(nth m.U i).length - k) (0) ?_ (⟨T0 _,rfl⟩) λk r=>?_
   ·exact wB
   obtain⟨r,t⟩:=r;by_cases E:k<(nth m.U i).length
   ·have c:=ao E
    repeat'(first|refine gD ?_|(conv=>whnf);first|with_reducible (first|refine CC (aa l) ?_|refine CC (aa c) ?_|refine Bf.D (λa=>?_) (λa=>?_))|refine C7 (aF _ 0 _) ?_)
    all_goals first
     | exact U0 (λz=>[B z]) ((oN j (by unfold gv;rw[eI c (by unfold mz;exact R0 ω)];rfl)).symm)
     | ((conv=>whnf);refine CD (k+1) ⟨ω,cP c t (by unfold mz;exact O0 ω)⟩ ω ?_;(exact wB))
   have F:=gr ω t
   repeat'(first|refine gD ?_|(conv=>whnf);first|with_reducible refine CC (aa l) ?_)
   (conv=>whnf)
   refine CE (ι:=Nat) (λb=>[(1,.H .box (aK.enc .X m)),(3,.H .one [I (m.U.length)]),(4,.H .one [I (bu m i)]),(5,.H .one [I ((i:Nat):Int)]),(8,.H .one [I ((b:Nat):Int)])]) (λb=>b<=(nth m.a0 i).length/\((nth m.a0 i).take b).all NY=true) (λb=>(nth m.a0 i).length - b) (0) ?_ (⟨T0 _,rfl⟩) λb e=>?_
   ·exact wB
   obtain⟨e,ak2⟩:=e;by_cases lk2:b<(nth m.a0 i).length
   ·have c:=ao lk2
    repeat'(first|refine gD ?_|(conv=>whnf);first|with_reducible (first|refine CC (aa q) ?_|refine CC (aa c) ?_|refine Bf.D (λa=>?_) (λa=>?_)))
    all_goals first
     | exact U0 (λz=>[B z]) ((oN j (by unfold gv;rw[eI c (by unfold NY;exact R0 ω)];simp)).symm)
     | ((conv=>whnf);refine CD (b+1) ⟨ω,cP c ak2 (by unfold NY;exact O0 ω)⟩ ω ?_;(exact wB))
   have ae2:=gr ω ak2;have g:bu m (i+1)=bu m i+((nth m.U i).length+(nth m.a0 i).length):=rfl;have d:bu m (i+1)=bu m i+(nth m.U i).length+(nth m.a0 i).length:=by rw[g];omega
   repeat'(first|refine gD ?_|(conv=>whnf);first|with_reducible (first|refine CC (aa l) ?_|refine CC (aa q) ?_))
   ((conv=>whnf);refine CD (i+1) ⟨ω,bN p (by unfold gv;rw[F,ae2];rfl),ω,ω⟩ ω ?_)
   rw[d];exact wB
  obtain rfl:i=m.U.length:=ω
  repeat'(first|refine gD ?_|fail)
  exact U0 (λz=>[B z]) ((vt n p).symm)
 refine fO 92 [(19,15,[75,76,77,78,79,80,81,82,83,84,85,86,87,88,89])] Tryz.func145 rfl ?_
 repeat'(first|refine gO ?_|(conv=>whnf);first|with_reducible (first|refine Bf.D (λa=>?_) (λa=>?_)|refine Bf.N (λa=>?_) (λa=>?_))|refine C7 (aF _ 1 4) ?_)
 all_goals first
  | exact U0 (λz=>[B z]) ((vM n).symm)
  |(exfalso;omega)
theorem tQ(m:aK)(g:aK.sml m):ar Tryz.prog 75 false [.val (some 2) (aK.enc .X m)] .one [B (bJ m)]:=by
 have t:m.U.length<=1048576:=g.1.1;have u:m.a0.length<=1048576:=g.2.1;by_cases n:1<=m.U.length/\m.U.length<=4/\m.a0.length=m.U.length
 ·refine fO 82 [(20,15,[64,65,66,67,68,69,70,71,72,73,74,75,76,77,78])] Tryz.func75 rfl ?_
  repeat'(first|refine gA ?_|(conv=>whnf);first|with_reducible (first|refine Bf.D (λa=>?_) (λa=>?_)|refine Bf.N (λa=>?_) (λa=>?_))|refine C7 (aO _ 1 4) ?_)
  (conv=>whnf)
  refine CE (ι:=Nat) (λi=>[(1,.H .box (aK.enc .X m)),(3,.H .one [I (m.U.length)]),(4,.H .one [I (bu m i)]),(25,.H .one [I (m.U.length)]),(26,.H .one [I ((i:Nat):Int)])]) (λi=>i<=m.U.length/\cR i (gv m)=true/\0<=bu m i/\bu m i<=2097152*i) (λi=>m.U.length - i) (0) ?_ (⟨T0 _,rfl,by simp[bu],by simp[bu]⟩) λi o=>?_
  ·exact wB
  obtain⟨o,p,F,G⟩:=o;by_cases h:i<m.U.length
  ·have j:=ao h
   have l:=ao (xs:=m.a0) (i:=i) ω;have w:(nth m.U i).length<=1048576:=(g.1.2 _ (am h)).1;have y:(nth m.a0 i).length<=1048576:=g.2.2 _ (am ω)
   repeat'(first|refine gD ?_|(conv=>whnf);first|with_reducible refine CC (aa j) ?_)
   (conv=>whnf)
   refine CE (ι:=Nat) (λk=>[(1,.H .box (aK.enc .X m)),(3,.H .one [I (m.U.length)]),(4,.H .one [I (bu m i)]),(5,.H .one [I ((i:Nat):Int)]),(25,.H .one [I (m.U.length)]),(26,.H .one [I ((i:Nat):Int)]),(33,.H .one (dd .X (nth m.U i))),(34,.H .one [I ((nth m.U i).length)]),(35,.H .one [I ((k:Nat):Int)])]) (λk=>k<=(nth m.U i).length/\((nth m.U i).take k).all (mz m.U.length)=true) (λk=>(nth m.U i).length - k) (0) ?_ (⟨T0 _,rfl⟩) λk q=>?_
   ·exact wB
   obtain⟨q,r⟩:=q;by_cases C:k<(nth m.U i).length
   ·have c:=ao C
    repeat'(first|refine gD ?_|(conv=>whnf);first|with_reducible (first|refine CC (aa j) ?_|refine CC (aa c) ?_|refine Bf.D (λa=>?_) (λa=>?_))|refine C7 (aO _ 0 _) ?_)
    all_goals first
     | exact U0 (λz=>[B z]) ((oN h (by unfold gv;rw[eI c (by unfold mz;exact R0 ω)];rfl)).symm)
     | ((conv=>whnf);refine CD (k+1) ⟨ω,cP c r (by unfold mz;exact O0 ω)⟩ ω ?_;(exact wB))
   have E:=gr ω r
   repeat'(first|refine gD ?_|(conv=>whnf);first|with_reducible (first|refine CC (aa j) ?_|refine CC (aa l) ?_))
   (conv=>whnf)
   refine CE (ι:=Nat) (λb=>[(1,.H .box (aK.enc .X m)),(3,.H .one [I (m.U.length)]),(4,.H .one [I (bu m i)]),(5,.H .one [I ((i:Nat):Int)]),(25,.H .one [I (m.U.length)]),(26,.H .one [I ((i:Nat):Int)]),(55,.H .one (aG .X (nth m.a0 i))),(56,.H .one [I ((nth m.a0 i).length)]),(57,.H .one [I ((b:Nat):Int)])]) (λb=>b<=(nth m.a0 i).length/\((nth m.a0 i).take b).all NY=true) (λb=>(nth m.a0 i).length - b) (0) ?_ (⟨T0 _,rfl⟩) λb d=>?_
   ·exact wB
   obtain⟨d,ak2⟩:=d;by_cases lk2:b<(nth m.a0 i).length
   ·have c:=ao lk2
    repeat'(first|refine gD ?_|(conv=>whnf);first|with_reducible (first|refine CC (aa l) ?_|refine CC (aa c) ?_|refine Bf.D (λa=>?_) (λa=>?_)))
    all_goals first
     | exact U0 (λz=>[B z]) ((oN h (by unfold gv;rw[eI c (by unfold NY;exact R0 ω)];simp)).symm)
     | ((conv=>whnf);refine CD (b+1) ⟨ω,cP c ak2 (by unfold NY;exact O0 ω)⟩ ω ?_;(exact wB))
   have ae2:=gr ω ak2;have e:bu m (i+1)=bu m i+((nth m.U i).length+(nth m.a0 i).length):=rfl
   repeat'(first|refine gD ?_|(conv=>whnf);first|with_reducible (first|refine CC (aa j) ?_|refine CC (aa l) ?_))
   ((conv=>whnf);refine CD (i+1) ⟨ω,bN p (by unfold gv;rw[E,ae2];rfl),ω,ω⟩ ω ?_)
   rw[e];exact wB
  obtain rfl:i=m.U.length:=ω
  repeat'(first|refine gD ?_|fail)
  exact U0 (λz=>[B z]) ((vt n p).symm)
 refine fO 82 [(20,15,[64,65,66,67,68,69,70,71,72,73,74,75,76,77,78])] Tryz.func75 rfl ?_
 repeat'(first|refine gO ?_|(conv=>whnf);first|with_reducible (first|refine Bf.D (λa=>?_) (λa=>?_)|refine Bf.N (λa=>?_) (λa=>?_))|refine C7 (aO _ 1 4) ?_)
 all_goals first
  | exact U0 (λz=>[B z]) ((vM n).symm)
  |(exfalso;omega)
theorem y2{s:ax}{a:Int}(h:cq s a=false):S2 (iK s a)=[I (-1),I (-1)]:=by
 unfold iK;rw[h];rfl
theorem wJ{s:ax}{a:Int}(h:cq s a=true):S2 (iK s a)=[I ((a - 16*s.Q) / csz s.b),I ((a - 16*s.Q) % csz s.b)]:=by
 unfold iK;rw[h];rfl
theorem rM{s:ax}{a:Int}(h:cq s a=true):bg s=true/\0<=(a - 16*s.Q) / csz s.b/\(a - 16*s.Q) / csz s.b<=15:=by
 unfold cq at h;simp only[I0,C0]at h;have b:=aC h.1;refine⟨h.1,?_⟩;rcases bM ⟨b.2.2.1,b.2.2.2⟩ with e|e|e|e<;>rw[e]<;>omega
theorem mY{sp:List ax}{la:List a8}{a:Int}{i:Nat}(b:i<sp.length)(h:cq (nth sp i) a=true)(c:∀(j:Nat)(z:ax),j<i->sp[j]? = some z->cq z a=false):denotes sp la a=nz i (nth sp i) a:=by
 unfold denotes;rw[uU (pr:=(cq · a)) (ao b) h c]
theorem lD{sp:List ax}{la:List a8}{a:Int}{i n:Nat}(b:sp.length<=n)(c:∀(j:Nat)(z:ax),j<n->sp[j]? = some z->cq z a=false)(d:i<la.length)(h:bn (nth la i) a=true)(e:∀(j:Nat)(z:a8),j<i->la[j]? = some z->bn z a=false) :
  denotes sp la a = ⟨3,i,0,a - 16*(nth la i).Q⟩:=by
 unfold denotes;rw[xd (pr:=(cq · a)) b c,uU (pr:=(bn · a)) (ao d) h e]
theorem wQ{sp:List ax}{la:List a8}{a:Int}{n k:Nat}(b:sp.length<=n)(c:∀(j:Nat)(z:ax),j<n->sp[j]? = some z->cq z a=false)(d:la.length<=k)(e:∀(j:Nat)(z:a8),j<k->la[j]? = some z->bn z a=false):denotes sp la a = ⟨0,0,0,0⟩:=by
 unfold denotes;rw[xd (pr:=(cq · a)) b c,xd (pr:=(bn · a)) d e]
theorem m0(sp:List ax)(la:List a8)(a:Int)(e:d8 sp)(g:d9 la)(h:bk sp la=true)(C:mq a):ar Tryz.prog 376 false [.val none (cz .X sp),.val none (co .X la),.val none [I a]] .agg (iW.enc .own (denotes sp la a)):=by
 have E:=e.1;have F:=g.1;have q:=lG sp la e g;rw[h]at q;refine fO 67 [] Tryz.func376 rfl ?_ (.inr (iW.enc_fr _))
 repeat'(first|refine gO ?_|(conv=>whnf);first|refine C7 q ?_)
 (conv=>whnf)
 refine CE (ι:=Nat) (λi=>[(0,.H .one (cz .X sp)),(1,.H .one (co .X la)),(2,.H .one [I (a)]),(6,.H .box ([I 0,I 0,I 0,I 0])),(7,.H .one [I ((i:Nat):Int)])]) (λi=>i<=sp.length/\∀(j:Nat)(z:ax),j<i->sp[j]? = some z->cq z a=false) (λi=>sp.length - i) (0) ?_ (⟨T0 _,λj z G=>ω⟩) λi r=>?_
 ·exact wB
 obtain⟨r,l⟩:=r;by_cases t:i<sp.length
 ·have d:=ao t
  have c:=ug (nth sp i) a C;cases b:cq (nth sp i) a with
  | false=>
   rw[y2 b]at c
   repeat'(first|refine gD ?_|(conv=>whnf);first|with_reducible (first|refine CC (aa d) ?_|refine Bf.D (λo=>?_) (λo=>?_))|refine C7 c ?_)
   ((conv=>whnf);refine CD (i+1) ⟨ω,d4 (pr:=(cq · a)) d b l⟩ ω ?_;(exact wB))
  | true=>
   rw[wJ b]at c;obtain⟨H,J,K⟩:=rM b;have u:=i7 (nth sp i).b1 ((a - 16*(nth sp i).Q) / csz (nth sp i).b) (fy H).2;cases w:aR (nth sp i).b1 ((a - 16*(nth sp i).Q) / csz (nth sp i).b)<;>rw[w]at u
   all_goals
    repeat'(first|refine gD ?_|(conv=>whnf);first|with_reducible (first|refine CC (aa d) ?_|refine Bf.D (λo=>?_) (λo=>?_))|refine C7 c ?_|refine C7 u ?_)
    all_goals(rw[mY t b l];unfold nz;rw[w];rfl)
 repeat'(first|refine gD ?_|fail)
 (conv=>whnf)
 refine CE (ι:=Nat) (λk=>[(1,.H .one (co .X la)),(2,.H .one [I (a)]),(6,.H .box ([I 0,I 0,I 0,I 0])),(11,.H .one [I ((k:Nat):Int)])]) (λk=>k<=la.length/\∀(j:Nat)(z:a8),j<k->la[j]? = some z->bn z a=false) (λk=>la.length - k) (0) ?_ (⟨T0 _,λj z G=>ω⟩) λk y=>?_
 ·exact wB
 obtain⟨y,p⟩:=y;by_cases B:k<la.length
 ·have d:=ao B
  have c:=pE (nth la k) a;cases b:bn (nth la k) a<;>rw[b]at c
  ·repeat'(first|refine gD ?_|(conv=>whnf);first|with_reducible refine CC (aa d) ?_|refine C7 c ?_)
   ((conv=>whnf);refine CD (k+1) ⟨ω,d4 (pr:=(bn · a)) d b p⟩ ω ?_;(exact wB))
  repeat'(first|refine gD ?_|(conv=>whnf);first|with_reducible refine CC (aa d) ?_|refine C7 c ?_|refine C7 (sB (nth la k) a b) ?_)
  rw[lD (n:=i) ω l B b p];rfl
 repeat'(first|refine gD ?_|fail)
 rw[wQ (n:=i) (k:=k) ω l ω p];rfl
theorem qJ(sp:List ax)(la:List a8)(a:Int)(g:d8 sp)(h:d9 la):ar Tryz.prog 97 false [.val none (cz .X sp),.val none (co .X la),.val none [I a]] .agg (iW.enc .own (denotes sp la a)):=by
 have y:=g.1;have B:=h.1;refine fO 56 [] Tryz.func97 rfl ?_ (.inr (iW.enc_fr _))
 repeat'(first|refine gO ?_|fail)
 (conv=>whnf)
 refine CE (ι:=Nat) (λi=>[(1,.H .one (co .X la)),(2,.H .one [I (a)]),(6,.H .box ([I 0,I 0,I 0,I 0])),(14,.H .one (cz .X sp)),(15,.H .one [I (sp.length)]),(16,.H .one [I ((i:Nat):Int)])]) (λi=>i<=sp.length/\∀(j:Nat)(z:ax),j<i->sp[j]? = some z->cq z a=false) (λi=>sp.length - i) (0) ?_ (⟨T0 _,λj z C=>ω⟩) λi p=>?_
 ·exact wB
 obtain⟨p,e⟩:=p;by_cases q:i<sp.length
 ·have d:=ao q
  have c:=D4 (nth sp i) a;cases b:cq (nth sp i) a with
  | false=>
   rw[y2 b]at c
   repeat'(first|refine gD ?_|(conv=>whnf);first|with_reducible (first|refine CC (aa d) ?_|refine Bf.D (λl=>?_) (λl=>?_))|refine C7 c ?_)
   ((conv=>whnf);refine CD (i+1) ⟨ω,d4 (pr:=(cq · a)) d b e⟩ ω ?_;(exact wB))
  | true=>
   rw[wJ b]at c;obtain⟨E,F,G⟩:=rM b;have r:=rR (nth sp i).b1 ((a - 16*(nth sp i).Q) / csz (nth sp i).b) (fy E).2;cases t:aR (nth sp i).b1 ((a - 16*(nth sp i).Q) / csz (nth sp i).b)<;>rw[t]at r
   all_goals
    repeat'(first|refine gD ?_|(conv=>whnf);first|with_reducible (first|refine CC (aa d) ?_|refine Bf.D (λl=>?_) (λl=>?_))|refine C7 c ?_|refine C7 r ?_)
    all_goals(rw[mY q b e];unfold nz;rw[t];rfl)
 repeat'(first|refine gD ?_|fail)
 (conv=>whnf)
 refine CE (ι:=Nat) (λk=>[(2,.H .one [I (a)]),(6,.H .box ([I 0,I 0,I 0,I 0])),(39,.H .one (co .X la)),(40,.H .one [I (la.length)]),(41,.H .one [I ((k:Nat):Int)])]) (λk=>k<=la.length/\∀(j:Nat)(z:a8),j<k->la[j]? = some z->bn z a=false) (λk=>la.length - k) (0) ?_ (⟨T0 _,λj z C=>ω⟩) λk u=>?_
 ·exact wB
 obtain⟨u,o⟩:=u;by_cases w:k<la.length
 ·have d:=ao w
  have c:=p8 (nth la k) a;cases b:bn (nth la k) a<;>rw[b]at c
  ·repeat'(first|refine gD ?_|(conv=>whnf);first|with_reducible refine CC (aa d) ?_|refine C7 c ?_)
   ((conv=>whnf);refine CD (k+1) ⟨ω,d4 (pr:=(bn · a)) d b o⟩ ω ?_;(exact wB))
  repeat'(first|refine gD ?_|(conv=>whnf);first|with_reducible refine CC (aa d) ?_|refine C7 c ?_|refine C7 (sM (nth la k) a b) ?_)
  rw[lD (n:=i) ω e w b o];rfl
 repeat'(first|refine gD ?_|fail)
 rw[wQ (n:=i) (k:=k) ω e ω o];rfl
section
variable{α:Type}
def EH(ag:Option Nat)(e:α->List C)(pr:α->Bool)(xs:List α):List (Option Nat × List C)->Kd->List C->Prop:=λL k rcs=>∃x,x∈xs/\L=[(ag,e x)]/\k=.one/\rcs=[B (pr x)]
end
theorem uy(xs:List aA)(pr:aA->Bool)(n:xs.length<=9223372036854775807):ar Tryz.prog 490 false [.val none (bO .X xs),.fn (qa Tryz.prog (EH (some 2) (aA.enc .X) pr xs))] .one [I (dD pr xs)]:=by
 refine fO 19 [] Tryz.func490 rfl ?_
 repeat'(first|refine gO ?_|fail)
 (conv=>whnf)
 refine CE (ι:=Nat) (λi=>[(0,.H .one (bO .X xs)),(1,.fv (qa Tryz.prog (EH (some 2) (aA.enc .X) pr xs))),(7,.H .one [I xs.length]),(8,.H .one [I (i:Nat)])]) (λi=>i<=xs.length/\∀(j:Nat)(z:aA),j<i->xs[j]? = some z->pr z=false) (λi=>xs.length - i) 0 ?_ ⟨T0 _,λj z h=>ω⟩ λi e=>?_
 ·exact wB
 obtain⟨e,b⟩:=e;by_cases c:i<xs.length
 ·obtain⟨y,a⟩ : ∃y,xs[i]? = some y:=⟨_,W1 c⟩
  repeat'(first|refine gD ?_|(conv=>whnf);first|with_reducible refine CC (aa a) ?_|refine Fv.mk (k:=.one) (rcs:=[B (pr y)]) ⟨y,U1 a,rfl,rfl,rfl⟩ ?_|refine Bf.P (λl=>?_) (λl=>?_))
  ·exact U0 (λz=>[I z]) (ed a ‹_› b).symm
  (conv=>whnf)
  refine CD (i+1) ⟨ω,λj z h d=>?_⟩ ω ?_
  ·rcases Nat.lt_or_ge j i with g|g
   ·exact b j z g d
   obtain rfl:j=i:=ω
   rw[a]at d;cases d;assumption
  exact wB
 repeat'(first|refine gD ?_|fail)
 exact U0 (λz=>[I z]) (gP ω b).symm
theorem pZ(xs:List aA)(pr:aA->Bool)(a:xs.length<=9223372036854775807):ar Tryz.prog 390 false [.val none (bO .X xs),.fn (qa Tryz.prog (EH (some 2) (aA.enc .X) pr xs))] .one [B (xs.any pr)]:=by
 refine fO 9 [] Tryz.func390 rfl ?_
 repeat'(first|refine gO ?_|(conv=>whnf);first|refine C7 (uy xs pr a) ?_)
 exact U0 (λz=>[B z]) (lL pr xs)
theorem uk(r:aA)(page:Int):ar Tryz.prog 391 false [.val (some 2) (aA.enc .X r),.ptr [I page]] .one [B (pX page r)]:=by
 refine fO 17 [] Tryz.func391 rfl ?_
 repeat'(first|refine gO ?_|(conv=>whnf);first|with_reducible refine Bf.D (λa=>?_) (λa=>?_)|refine CL rfl ?_)
 all_goals exact U0 (λz=>[B z]) (by unfold pX;first|(rw[O0 (by assumption:r.At<=page)];simp;done)|(rw[R0 (by assumption:¬r.At<=page)];rfl))
theorem x9(xs:List aA)(page:Int)(a:xs.length<=9223372036854775807):ar Tryz.prog 243 false [.val none (bO .X xs),.val none [I page]] .one [B (xs.any (pX page))]:=by
 refine fO 8 [] Tryz.func243 rfl ?_
 repeat'(first|refine gO ?_|(conv=>whnf);first|refine Cq.mk (EH (some 2) (aA.enc .X) (pX page) xs) (uk default page).has (λL k rcs b=>?_) ?_|refine C7 (pZ xs (pX page) a) ?_)
 ·obtain⟨x,-,rfl,rfl,rfl⟩:=b
  exact uk x page
 rfl
end Go.Proofs.YtecefhjnejfheaaGreat.Ab
