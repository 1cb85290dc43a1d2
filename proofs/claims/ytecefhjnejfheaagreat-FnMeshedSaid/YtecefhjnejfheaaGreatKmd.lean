/- The types of the program as the abstract runs see them. Printed by gen_te.py. No condition. -/
import Derived.Test.YtecefhjnejfheaaGreatKmc
import Derived.KernelRfl
import Derived.Test.YtecefhjnejfheaaGreatProg
set_option linter.unusedVariables false
set_option linter.defProp false
set_option linter.unusedSimpArgs false
set_option linter.constructorNameAsVariable false
namespace Go.Proofs.YtecefhjnejfheaaGreat.Ab
open Go.RowKit
def Ji:List (Nat × TI)->Nat->Option TI
 | [],_=>none
 | p::l,t=>bif Nat.beq t p.1 then some p.2 else Ji l t
def RI(P:Program):List (Nat × TI)->Prop
 | []=>True
 | p::l=>bQ P p.1 p.2/\RI P l
def EY{P:Program} : ∀{l:List (Nat × TI)},RI P l->∀t i,Ji l t=some i->bQ P t i
 | [],_,t,i,h=>by cases h
 | p::l,b,t,i,h=>by
  simp only[Ji]at h;cases a:Nat.beq t p.1 with
  | true=>
   rw[a]at h;simp only[cond_true,Z0]at h;have:=C2 a;subst this h;exact b.1
  | false=>rw[a]at h;exact EY b.2 t i h
def ti3:TI:=⟨1,8,[.v (.int .i64 0)],.sc (.int .i64)⟩
def tok3:bQ Tryz.prog 3 ti3:=⟨by kernel_rfl,by simp[ti3,aC,Value.oneCell'],⟨Tryz.underlying3,trivial⟩⟩
def ti4:TI:=⟨1,1,[.v (.bool false)],.sc .bool⟩
def tok4:bQ Tryz.prog 4 ti4:=⟨by kernel_rfl,by simp[ti4,aC,Value.oneCell'],⟨Tryz.underlying4,trivial⟩⟩
def ti2:TI:=⟨1,8,[.v (.int .i64 0)],.sc (.int .i64)⟩
def tok2:bQ Tryz.prog 2 ti2:=⟨by kernel_rfl,by simp[ti2,aC,Value.oneCell'],⟨Tryz.underlying2,trivial⟩⟩
def ti5:TI:=⟨1,1,[.v (.int .u8 0)],.sc (.int .u8)⟩
def tok5:bQ Tryz.prog 5 ti5:=⟨by kernel_rfl,by simp[ti5,aC,Value.oneCell'],⟨Tryz.underlying5,trivial⟩⟩
def ti6:TI:=⟨1,1,[.v (.int .u8 0)],.sc (.int .u8)⟩
def tok6:bQ Tryz.prog 6 ti6:=⟨by kernel_rfl,by simp[ti6,aC,Value.oneCell'],⟨Tryz.underlying6,trivial⟩⟩
def ti7:TI:=⟨4,24,[.v (.int .i64 0),.v (.int .i64 0),.v (.bool false),.v (.int .u8 0)],.st [(0,2),(1,3),(2,4),(3,6)]⟩
def tok7:bQ Tryz.prog 7 ti7:=⟨by kernel_rfl,by simp[ti7,aC,Value.oneCell'],⟨_,Tryz.underlying7,rfl⟩⟩
def ti8:TI:=⟨4,24,[.v (.int .i64 0),.v (.int .i64 0),.v (.bool false),.v (.int .u8 0)],.st [(0,2),(1,3),(2,4),(3,6)]⟩
def tok8:bQ Tryz.prog 8 ti8:=⟨by kernel_rfl,by simp[ti8,aC,Value.oneCell'],⟨_,Tryz.underlying8,rfl⟩⟩
def ti9:TI:=⟨1,16,[.v (.string ⟨#[]⟩)],.sc .string⟩
def tok9:bQ Tryz.prog 9 ti9:=⟨by kernel_rfl,by simp[ti9,aC,Value.oneCell'],⟨Tryz.underlying9,trivial⟩⟩
def ti10:TI:=⟨1,16,[.v (.string ⟨#[]⟩)],.sc .string⟩
def tok10:bQ Tryz.prog 10 ti10:=⟨by kernel_rfl,by simp[ti10,aC,Value.oneCell'],⟨Tryz.underlying10,trivial⟩⟩
def ti11:TI:=⟨1,16,[.v (.string ⟨#[]⟩)],.sc .string⟩
def tok11:bQ Tryz.prog 11 ti11:=⟨by kernel_rfl,by simp[ti11,aC,Value.oneCell'],⟨Tryz.underlying11,trivial⟩⟩
def ti12:TI:=⟨1,8,[.v (.int .u64 0)],.sc (.int .u64)⟩
def tok12:bQ Tryz.prog 12 ti12:=⟨by kernel_rfl,by simp[ti12,aC,Value.oneCell'],⟨Tryz.underlying12,trivial⟩⟩
def ti13:TI:=⟨2,24,[.v (.string ⟨#[]⟩),.v (.int .u64 0)],.st [(0,9),(1,12)]⟩
def tok13:bQ Tryz.prog 13 ti13:=⟨by kernel_rfl,by simp[ti13,aC,Value.oneCell'],⟨_,Tryz.underlying13,rfl⟩⟩
def ti14:TI:=⟨2,24,[.v (.string ⟨#[]⟩),.v (.int .u64 0)],.st [(0,9),(1,12)]⟩
def tok14:bQ Tryz.prog 14 ti14:=⟨by kernel_rfl,by simp[ti14,aC,Value.oneCell'],⟨_,Tryz.underlying14,rfl⟩⟩
def ti21:TI:=⟨1,4,[.v (.int .i32 0)],.sc (.int .i32)⟩
def tok21:bQ Tryz.prog 21 ti21:=⟨by kernel_rfl,by simp[ti21,aC,Value.oneCell'],⟨Tryz.underlying21,trivial⟩⟩
def ti22:TI:=⟨1,24,[.z],.sl 5⟩
def tok22:bQ Tryz.prog 22 ti22:=⟨by kernel_rfl,by simp[ti22,aC,Value.oneCell'],Tryz.underlying22⟩
def ti24:TI:=⟨1,24,[.z],.sl 33⟩
def tok24:bQ Tryz.prog 24 ti24:=⟨by kernel_rfl,by simp[ti24,aC,Value.oneCell'],Tryz.underlying24⟩
def ti25:TI:=⟨1,24,[.z],.sl 4⟩
def tok25:bQ Tryz.prog 25 ti25:=⟨by kernel_rfl,by simp[ti25,aC,Value.oneCell'],Tryz.underlying25⟩
def ti26:TI:=⟨2,48,[.z,.z],.st [(0,24),(1,25)]⟩
def tok26:bQ Tryz.prog 26 ti26:=⟨by kernel_rfl,by simp[ti26,aC,Value.oneCell'],⟨_,Tryz.underlying26,rfl⟩⟩
def ti27:TI:=⟨2,48,[.z,.z],.st [(0,24),(1,25)]⟩
def tok27:bQ Tryz.prog 27 ti27:=⟨by kernel_rfl,by simp[ti27,aC,Value.oneCell'],⟨_,Tryz.underlying27,rfl⟩⟩
def ti28:TI:=⟨1,24,[.z],.sl 98⟩
def tok28:bQ Tryz.prog 28 ti28:=⟨by kernel_rfl,by simp[ti28,aC,Value.oneCell'],Tryz.underlying28⟩
def ti29:TI:=⟨1,24,[.z],.st [(0,28)]⟩
def tok29:bQ Tryz.prog 29 ti29:=⟨by kernel_rfl,by simp[ti29,aC,Value.oneCell'],⟨_,Tryz.underlying29,rfl⟩⟩
def ti30:TI:=⟨1,24,[.z],.st [(0,28)]⟩
def tok30:bQ Tryz.prog 30 ti30:=⟨by kernel_rfl,by simp[ti30,aC,Value.oneCell'],⟨_,Tryz.underlying30,rfl⟩⟩
def ti31:TI:=⟨3,72,[.z,.z,.z],.st [(0,27),(2,30)]⟩
def tok31:bQ Tryz.prog 31 ti31:=⟨by kernel_rfl,by simp[ti31,aC,Value.oneCell'],⟨_,Tryz.underlying31,rfl⟩⟩
def ti32:TI:=⟨3,72,[.z,.z,.z],.st [(0,27),(2,30)]⟩
def tok32:bQ Tryz.prog 32 ti32:=⟨by kernel_rfl,by simp[ti32,aC,Value.oneCell'],⟨_,Tryz.underlying32,rfl⟩⟩
def ti33:TI:=⟨1,24,[.z],.sl 3⟩
def tok33:bQ Tryz.prog 33 ti33:=⟨by kernel_rfl,by simp[ti33,aC,Value.oneCell'],Tryz.underlying33⟩
def ti34:TI:=⟨5,104,[.z,.z,.z,.v (.int .i64 0),.z],.st [(0,32),(3,3),(4,33)]⟩
def tok34:bQ Tryz.prog 34 ti34:=⟨by kernel_rfl,by simp[ti34,aC,Value.oneCell'],⟨_,Tryz.underlying34,rfl⟩⟩
def ti35:TI:=⟨5,104,[.z,.z,.z,.v (.int .i64 0),.z],.st [(0,32),(3,3),(4,33)]⟩
def tok35:bQ Tryz.prog 35 ti35:=⟨by kernel_rfl,by simp[ti35,aC,Value.oneCell'],⟨_,Tryz.underlying35,rfl⟩⟩
def ti36:TI:=⟨1,24,[.z],.sl 216⟩
def tok36:bQ Tryz.prog 36 ti36:=⟨by kernel_rfl,by simp[ti36,aC,Value.oneCell'],Tryz.underlying36⟩
def ti37:TI:=⟨1,24,[.z],.sl 167⟩
def tok37:bQ Tryz.prog 37 ti37:=⟨by kernel_rfl,by simp[ti37,aC,Value.oneCell'],Tryz.underlying37⟩
def ti38:TI:=⟨1,24,[.z],.sl 211⟩
def tok38:bQ Tryz.prog 38 ti38:=⟨by kernel_rfl,by simp[ti38,aC,Value.oneCell'],Tryz.underlying38⟩
def ti39:TI:=⟨1,24,[.z],.sl 74⟩
def tok39:bQ Tryz.prog 39 ti39:=⟨by kernel_rfl,by simp[ti39,aC,Value.oneCell'],Tryz.underlying39⟩
def ti40:TI:=⟨1,24,[.z],.sl 152⟩
def tok40:bQ Tryz.prog 40 ti40:=⟨by kernel_rfl,by simp[ti40,aC,Value.oneCell'],Tryz.underlying40⟩
def ti41:TI:=⟨1,24,[.z],.sl 228⟩
def tok41:bQ Tryz.prog 41 ti41:=⟨by kernel_rfl,by simp[ti41,aC,Value.oneCell'],Tryz.underlying41⟩
def ti42:TI:=⟨2,48,[.z,.z],.st [(0,41),(1,24)]⟩
def tok42:bQ Tryz.prog 42 ti42:=⟨by kernel_rfl,by simp[ti42,aC,Value.oneCell'],⟨_,Tryz.underlying42,rfl⟩⟩
def ti43:TI:=⟨2,48,[.z,.z],.st [(0,41),(1,24)]⟩
def tok43:bQ Tryz.prog 43 ti43:=⟨by kernel_rfl,by simp[ti43,aC,Value.oneCell'],⟨_,Tryz.underlying43,rfl⟩⟩
def ti44:TI:=⟨1,24,[.z],.sl 226⟩
def tok44:bQ Tryz.prog 44 ti44:=⟨by kernel_rfl,by simp[ti44,aC,Value.oneCell'],Tryz.underlying44⟩
def ti45:TI:=⟨2,32,[.v (.int .i64 0),.z],.st [(0,3),(1,44)]⟩
def tok45:bQ Tryz.prog 45 ti45:=⟨by kernel_rfl,by simp[ti45,aC,Value.oneCell'],⟨_,Tryz.underlying45,rfl⟩⟩
def ti46:TI:=⟨2,32,[.v (.int .i64 0),.z],.st [(0,3),(1,44)]⟩
def tok46:bQ Tryz.prog 46 ti46:=⟨by kernel_rfl,by simp[ti46,aC,Value.oneCell'],⟨_,Tryz.underlying46,rfl⟩⟩
def ti47:TI:=⟨3,40,[.v (.int .i64 0),.v (.int .i64 0),.z],.st [(0,3),(1,3),(2,33)]⟩
def tok47:bQ Tryz.prog 47 ti47:=⟨by kernel_rfl,by simp[ti47,aC,Value.oneCell'],⟨_,Tryz.underlying47,rfl⟩⟩
def ti48:TI:=⟨3,40,[.v (.int .i64 0),.v (.int .i64 0),.z],.st [(0,3),(1,3),(2,33)]⟩
def tok48:bQ Tryz.prog 48 ti48:=⟨by kernel_rfl,by simp[ti48,aC,Value.oneCell'],⟨_,Tryz.underlying48,rfl⟩⟩
def ti49:TI:=⟨5,56,[.v (.int .i64 0),.v (.int .i64 0),.z,.v (.int .i64 0),.v (.int .i64 0)],.st [(0,48),(3,3),(4,3)]⟩
def tok49:bQ Tryz.prog 49 ti49:=⟨by kernel_rfl,by simp[ti49,aC,Value.oneCell'],⟨_,Tryz.underlying49,rfl⟩⟩
def ti50:TI:=⟨5,56,[.v (.int .i64 0),.v (.int .i64 0),.z,.v (.int .i64 0),.v (.int .i64 0)],.st [(0,48),(3,3),(4,3)]⟩
def tok50:bQ Tryz.prog 50 ti50:=⟨by kernel_rfl,by simp[ti50,aC,Value.oneCell'],⟨_,Tryz.underlying50,rfl⟩⟩
def ti51:TI:=⟨24,400,[.z,.z,.z,.v (.int .i64 0),.z,.z,.z,.z,.z,.z,.z,.z,.v (.int .i64 0),.z,.v (.int .i64 0),.v (.int .i64 0),.v (.int .i64 0),.v (.int .i64 0),.v (.bool false),.v (.int .i64 0),.v (.int .i64 0),.z,.v (.int .i64 0),.v (.int .i64 0)],.st [(0,35),(5,36),(6,37),(7,38),(8,39),(9,40),(10,43),(12,46),(14,3),(15,3),(16,3),(17,3),(18,4),(19,50)]⟩
def tok51:bQ Tryz.prog 51 ti51:=⟨by kernel_rfl,by simp[ti51,aC,Value.oneCell'],⟨_,Tryz.underlying51,rfl⟩⟩
def ti52:TI:=⟨24,400,[.z,.z,.z,.v (.int .i64 0),.z,.z,.z,.z,.z,.z,.z,.z,.v (.int .i64 0),.z,.v (.int .i64 0),.v (.int .i64 0),.v (.int .i64 0),.v (.int .i64 0),.v (.bool false),.v (.int .i64 0),.v (.int .i64 0),.z,.v (.int .i64 0),.v (.int .i64 0)],.st [(0,35),(5,36),(6,37),(7,38),(8,39),(9,40),(10,43),(12,46),(14,3),(15,3),(16,3),(17,3),(18,4),(19,50)]⟩
def tok52:bQ Tryz.prog 52 ti52:=⟨by kernel_rfl,by simp[ti52,aC,Value.oneCell'],⟨_,Tryz.underlying52,rfl⟩⟩
def ti53:TI:=⟨1,24,[.z],.sl 82⟩
def tok53:bQ Tryz.prog 53 ti53:=⟨by kernel_rfl,by simp[ti53,aC,Value.oneCell'],Tryz.underlying53⟩
def ti54:TI:=⟨2,32,[.v (.int .i64 0),.z],.st [(0,3),(1,53)]⟩
def tok54:bQ Tryz.prog 54 ti54:=⟨by kernel_rfl,by simp[ti54,aC,Value.oneCell'],⟨_,Tryz.underlying54,rfl⟩⟩
def ti55:TI:=⟨2,32,[.v (.int .i64 0),.z],.st [(0,3),(1,53)]⟩
def tok55:bQ Tryz.prog 55 ti55:=⟨by kernel_rfl,by simp[ti55,aC,Value.oneCell'],⟨_,Tryz.underlying55,rfl⟩⟩
def ti56:TI:=⟨26,432,[.z,.z,.z,.v (.int .i64 0),.z,.z,.z,.z,.z,.z,.z,.z,.v (.int .i64 0),.z,.v (.int .i64 0),.v (.int .i64 0),.v (.int .i64 0),.v (.int .i64 0),.v (.bool false),.v (.int .i64 0),.v (.int .i64 0),.z,.v (.int .i64 0),.v (.int .i64 0),.v (.int .i64 0),.z],.st [(0,52),(24,55)]⟩
def tok56:bQ Tryz.prog 56 ti56:=⟨by kernel_rfl,by simp[ti56,aC,Value.oneCell'],⟨_,Tryz.underlying56,rfl⟩⟩
def ti57:TI:=⟨26,432,[.z,.z,.z,.v (.int .i64 0),.z,.z,.z,.z,.z,.z,.z,.z,.v (.int .i64 0),.z,.v (.int .i64 0),.v (.int .i64 0),.v (.int .i64 0),.v (.int .i64 0),.v (.bool false),.v (.int .i64 0),.v (.int .i64 0),.z,.v (.int .i64 0),.v (.int .i64 0),.v (.int .i64 0),.z],.st [(0,52),(24,55)]⟩
def tok57:bQ Tryz.prog 57 ti57:=⟨by kernel_rfl,by simp[ti57,aC,Value.oneCell'],⟨_,Tryz.underlying57,rfl⟩⟩
def ti73:TI:=⟨4,32,[.v (.int .i64 0),.v (.int .i64 0),.v (.int .i64 0),.v (.int .i64 0)],.st [(0,3),(1,3),(2,3),(3,3)]⟩
def tok73:bQ Tryz.prog 73 ti73:=⟨by kernel_rfl,by simp[ti73,aC,Value.oneCell'],⟨_,Tryz.underlying73,rfl⟩⟩
def ti74:TI:=⟨4,32,[.v (.int .i64 0),.v (.int .i64 0),.v (.int .i64 0),.v (.int .i64 0)],.st [(0,3),(1,3),(2,3),(3,3)]⟩
def tok74:bQ Tryz.prog 74 ti74:=⟨by kernel_rfl,by simp[ti74,aC,Value.oneCell'],⟨_,Tryz.underlying74,rfl⟩⟩
def ti76:TI:=⟨8,64,[.v (.int .i64 0),.v (.int .i64 0),.v (.int .i64 0),.v (.int .i64 0),.v (.int .i64 0),.v (.int .i64 0),.v (.int .i64 0),.v (.int .i64 0)],.st [(0,3),(1,3),(2,3),(3,3),(4,3),(5,3),(6,3),(7,3)]⟩
def tok76:bQ Tryz.prog 76 ti76:=⟨by kernel_rfl,by simp[ti76,aC,Value.oneCell'],⟨_,Tryz.underlying76,rfl⟩⟩
def ti77:TI:=⟨8,64,[.v (.int .i64 0),.v (.int .i64 0),.v (.int .i64 0),.v (.int .i64 0),.v (.int .i64 0),.v (.int .i64 0),.v (.int .i64 0),.v (.int .i64 0)],.st [(0,3),(1,3),(2,3),(3,3),(4,3),(5,3),(6,3),(7,3)]⟩
def tok77:bQ Tryz.prog 77 ti77:=⟨by kernel_rfl,by simp[ti77,aC,Value.oneCell'],⟨_,Tryz.underlying77,rfl⟩⟩
def ti79:TI:=⟨1,24,[.z],.sl 84⟩
def tok79:bQ Tryz.prog 79 ti79:=⟨by kernel_rfl,by simp[ti79,aC,Value.oneCell'],Tryz.underlying79⟩
def ti81:TI:=⟨2,32,[.v (.int .i64 0),.z],.st [(0,3),(1,33)]⟩
def tok81:bQ Tryz.prog 81 ti81:=⟨by kernel_rfl,by simp[ti81,aC,Value.oneCell'],⟨_,Tryz.underlying81,rfl⟩⟩
def ti82:TI:=⟨2,32,[.v (.int .i64 0),.z],.st [(0,3),(1,33)]⟩
def tok82:bQ Tryz.prog 82 ti82:=⟨by kernel_rfl,by simp[ti82,aC,Value.oneCell'],⟨_,Tryz.underlying82,rfl⟩⟩
def ti83:TI:=⟨3,24,[.v (.int .i64 0),.v (.int .i64 0),.v (.int .i64 0)],.st [(0,3),(1,3),(2,3)]⟩
def tok83:bQ Tryz.prog 83 ti83:=⟨by kernel_rfl,by simp[ti83,aC,Value.oneCell'],⟨_,Tryz.underlying83,rfl⟩⟩
def ti84:TI:=⟨3,24,[.v (.int .i64 0),.v (.int .i64 0),.v (.int .i64 0)],.st [(0,3),(1,3),(2,3)]⟩
def tok84:bQ Tryz.prog 84 ti84:=⟨by kernel_rfl,by simp[ti84,aC,Value.oneCell'],⟨_,Tryz.underlying84,rfl⟩⟩
def ti88:TI:=⟨5,40,[.v (.int .i64 0),.v (.int .i64 0),.v (.int .i64 0),.v (.int .i64 0),.v (.int .i64 0)],.st [(0,3),(1,3),(2,3),(3,3),(4,3)]⟩
def tok88:bQ Tryz.prog 88 ti88:=⟨by kernel_rfl,by simp[ti88,aC,Value.oneCell'],⟨_,Tryz.underlying88,rfl⟩⟩
def ti89:TI:=⟨5,40,[.v (.int .i64 0),.v (.int .i64 0),.v (.int .i64 0),.v (.int .i64 0),.v (.int .i64 0)],.st [(0,3),(1,3),(2,3),(3,3),(4,3)]⟩
def tok89:bQ Tryz.prog 89 ti89:=⟨by kernel_rfl,by simp[ti89,aC,Value.oneCell'],⟨_,Tryz.underlying89,rfl⟩⟩
def ti97:TI:=⟨2,16,[.v (.int .i64 0),.v (.int .i64 0)],.st [(0,3),(1,3)]⟩
def tok97:bQ Tryz.prog 97 ti97:=⟨by kernel_rfl,by simp[ti97,aC,Value.oneCell'],⟨_,Tryz.underlying97,rfl⟩⟩
def ti98:TI:=⟨2,16,[.v (.int .i64 0),.v (.int .i64 0)],.st [(0,3),(1,3)]⟩
def tok98:bQ Tryz.prog 98 ti98:=⟨by kernel_rfl,by simp[ti98,aC,Value.oneCell'],⟨_,Tryz.underlying98,rfl⟩⟩
def ti101:TI:=⟨2,48,[.z,.z],.st [(0,24),(1,25)]⟩
def tok101:bQ Tryz.prog 101 ti101:=⟨by kernel_rfl,by simp[ti101,aC,Value.oneCell'],⟨_,Tryz.underlying101,rfl⟩⟩
def ti102:TI:=⟨1,24,[.z],.sl 493⟩
def tok102:bQ Tryz.prog 102 ti102:=⟨by kernel_rfl,by simp[ti102,aC,Value.oneCell'],Tryz.underlying102⟩
def ti103:TI:=⟨1,24,[.z],.st [(0,102)]⟩
def tok103:bQ Tryz.prog 103 ti103:=⟨by kernel_rfl,by simp[ti103,aC,Value.oneCell'],⟨_,Tryz.underlying103,rfl⟩⟩
def ti104:TI:=⟨1,24,[.z],.st [(0,102)]⟩
def tok104:bQ Tryz.prog 104 ti104:=⟨by kernel_rfl,by simp[ti104,aC,Value.oneCell'],⟨_,Tryz.underlying104,rfl⟩⟩
def ti105:TI:=⟨3,72,[.z,.z,.z],.st [(0,101),(2,104)]⟩
def tok105:bQ Tryz.prog 105 ti105:=⟨by kernel_rfl,by simp[ti105,aC,Value.oneCell'],⟨_,Tryz.underlying105,rfl⟩⟩
def ti106:TI:=⟨3,72,[.z,.z,.z],.st [(0,101),(2,104)]⟩
def tok106:bQ Tryz.prog 106 ti106:=⟨by kernel_rfl,by simp[ti106,aC,Value.oneCell'],⟨_,Tryz.underlying106,rfl⟩⟩
def ti107:TI:=⟨5,104,[.z,.z,.z,.v (.int .i64 0),.z],.st [(0,106),(3,3),(4,33)]⟩
def tok107:bQ Tryz.prog 107 ti107:=⟨by kernel_rfl,by simp[ti107,aC,Value.oneCell'],⟨_,Tryz.underlying107,rfl⟩⟩
def ti108:TI:=⟨5,104,[.z,.z,.z,.v (.int .i64 0),.z],.st [(0,106),(3,3),(4,33)]⟩
def tok108:bQ Tryz.prog 108 ti108:=⟨by kernel_rfl,by simp[ti108,aC,Value.oneCell'],⟨_,Tryz.underlying108,rfl⟩⟩
def ti109:TI:=⟨1,24,[.z],.sl 351⟩
def tok109:bQ Tryz.prog 109 ti109:=⟨by kernel_rfl,by simp[ti109,aC,Value.oneCell'],Tryz.underlying109⟩
def ti110:TI:=⟨1,24,[.z],.sl 353⟩
def tok110:bQ Tryz.prog 110 ti110:=⟨by kernel_rfl,by simp[ti110,aC,Value.oneCell'],Tryz.underlying110⟩
def ti111:TI:=⟨1,24,[.z],.sl 355⟩
def tok111:bQ Tryz.prog 111 ti111:=⟨by kernel_rfl,by simp[ti111,aC,Value.oneCell'],Tryz.underlying111⟩
def ti112:TI:=⟨1,24,[.z],.sl 357⟩
def tok112:bQ Tryz.prog 112 ti112:=⟨by kernel_rfl,by simp[ti112,aC,Value.oneCell'],Tryz.underlying112⟩
def ti113:TI:=⟨1,24,[.z],.sl 344⟩
def tok113:bQ Tryz.prog 113 ti113:=⟨by kernel_rfl,by simp[ti113,aC,Value.oneCell'],Tryz.underlying113⟩
def ti114:TI:=⟨1,24,[.z],.sl 431⟩
def tok114:bQ Tryz.prog 114 ti114:=⟨by kernel_rfl,by simp[ti114,aC,Value.oneCell'],Tryz.underlying114⟩
def ti115:TI:=⟨2,48,[.z,.z],.st [(0,114),(1,24)]⟩
def tok115:bQ Tryz.prog 115 ti115:=⟨by kernel_rfl,by simp[ti115,aC,Value.oneCell'],⟨_,Tryz.underlying115,rfl⟩⟩
def ti116:TI:=⟨2,48,[.z,.z],.st [(0,114),(1,24)]⟩
def tok116:bQ Tryz.prog 116 ti116:=⟨by kernel_rfl,by simp[ti116,aC,Value.oneCell'],⟨_,Tryz.underlying116,rfl⟩⟩
def ti117:TI:=⟨1,24,[.z],.sl 436⟩
def tok117:bQ Tryz.prog 117 ti117:=⟨by kernel_rfl,by simp[ti117,aC,Value.oneCell'],Tryz.underlying117⟩
def ti118:TI:=⟨2,32,[.v (.int .i64 0),.z],.st [(0,3),(1,117)]⟩
def tok118:bQ Tryz.prog 118 ti118:=⟨by kernel_rfl,by simp[ti118,aC,Value.oneCell'],⟨_,Tryz.underlying118,rfl⟩⟩
def ti119:TI:=⟨2,32,[.v (.int .i64 0),.z],.st [(0,3),(1,117)]⟩
def tok119:bQ Tryz.prog 119 ti119:=⟨by kernel_rfl,by simp[ti119,aC,Value.oneCell'],⟨_,Tryz.underlying119,rfl⟩⟩
def ti120:TI:=⟨3,40,[.v (.int .i64 0),.v (.int .i64 0),.z],.st [(0,3),(1,3),(2,33)]⟩
def tok120:bQ Tryz.prog 120 ti120:=⟨by kernel_rfl,by simp[ti120,aC,Value.oneCell'],⟨_,Tryz.underlying120,rfl⟩⟩
def ti121:TI:=⟨5,56,[.v (.int .i64 0),.v (.int .i64 0),.z,.v (.int .i64 0),.v (.int .i64 0)],.st [(0,120),(3,3),(4,3)]⟩
def tok121:bQ Tryz.prog 121 ti121:=⟨by kernel_rfl,by simp[ti121,aC,Value.oneCell'],⟨_,Tryz.underlying121,rfl⟩⟩
def ti122:TI:=⟨5,56,[.v (.int .i64 0),.v (.int .i64 0),.z,.v (.int .i64 0),.v (.int .i64 0)],.st [(0,120),(3,3),(4,3)]⟩
def tok122:bQ Tryz.prog 122 ti122:=⟨by kernel_rfl,by simp[ti122,aC,Value.oneCell'],⟨_,Tryz.underlying122,rfl⟩⟩
def ti123:TI:=⟨24,400,[.z,.z,.z,.v (.int .i64 0),.z,.z,.z,.z,.z,.z,.z,.z,.v (.int .i64 0),.z,.v (.int .i64 0),.v (.int .i64 0),.v (.int .i64 0),.v (.int .i64 0),.v (.bool false),.v (.int .i64 0),.v (.int .i64 0),.z,.v (.int .i64 0),.v (.int .i64 0)],.st [(0,108),(5,109),(6,110),(7,111),(8,112),(9,113),(10,116),(12,119),(14,3),(15,3),(16,3),(17,3),(18,4),(19,122)]⟩
def tok123:bQ Tryz.prog 123 ti123:=⟨by kernel_rfl,by simp[ti123,aC,Value.oneCell'],⟨_,Tryz.underlying123,rfl⟩⟩
def ti124:TI:=⟨24,400,[.z,.z,.z,.v (.int .i64 0),.z,.z,.z,.z,.z,.z,.z,.z,.v (.int .i64 0),.z,.v (.int .i64 0),.v (.int .i64 0),.v (.int .i64 0),.v (.int .i64 0),.v (.bool false),.v (.int .i64 0),.v (.int .i64 0),.z,.v (.int .i64 0),.v (.int .i64 0)],.st [(0,108),(5,109),(6,110),(7,111),(8,112),(9,113),(10,116),(12,119),(14,3),(15,3),(16,3),(17,3),(18,4),(19,122)]⟩
def tok124:bQ Tryz.prog 124 ti124:=⟨by kernel_rfl,by simp[ti124,aC,Value.oneCell'],⟨_,Tryz.underlying124,rfl⟩⟩
def ti151:TI:=⟨1,24,[.z],.st [(0,24)]⟩
def tok151:bQ Tryz.prog 151 ti151:=⟨by kernel_rfl,by simp[ti151,aC,Value.oneCell'],⟨_,Tryz.underlying151,rfl⟩⟩
def ti152:TI:=⟨1,24,[.z],.st [(0,24)]⟩
def tok152:bQ Tryz.prog 152 ti152:=⟨by kernel_rfl,by simp[ti152,aC,Value.oneCell'],⟨_,Tryz.underlying152,rfl⟩⟩
def ti166:TI:=⟨3,24,[.v (.int .i64 0),.v (.int .i64 0),.v (.int .i64 0)],.st [(0,3),(1,3),(2,3)]⟩
def tok166:bQ Tryz.prog 166 ti166:=⟨by kernel_rfl,by simp[ti166,aC,Value.oneCell'],⟨_,Tryz.underlying166,rfl⟩⟩
def ti167:TI:=⟨3,24,[.v (.int .i64 0),.v (.int .i64 0),.v (.int .i64 0)],.st [(0,3),(1,3),(2,3)]⟩
def tok167:bQ Tryz.prog 167 ti167:=⟨by kernel_rfl,by simp[ti167,aC,Value.oneCell'],⟨_,Tryz.underlying167,rfl⟩⟩
def ti168:TI:=⟨4,32,[.v (.int .i64 0),.v (.int .i64 0),.v (.int .i64 0),.v (.int .i64 0)],.st [(0,3),(1,3),(2,3),(3,3)]⟩
def tok168:bQ Tryz.prog 168 ti168:=⟨by kernel_rfl,by simp[ti168,aC,Value.oneCell'],⟨_,Tryz.underlying168,rfl⟩⟩
def ti169:TI:=⟨4,32,[.v (.int .i64 0),.v (.int .i64 0),.v (.int .i64 0),.v (.int .i64 0)],.st [(0,3),(1,3),(2,3),(3,3)]⟩
def tok169:bQ Tryz.prog 169 ti169:=⟨by kernel_rfl,by simp[ti169,aC,Value.oneCell'],⟨_,Tryz.underlying169,rfl⟩⟩
def ti195:TI:=⟨1,24,[.z],.sl 201⟩
def tok195:bQ Tryz.prog 195 ti195:=⟨by kernel_rfl,by simp[ti195,aC,Value.oneCell'],Tryz.underlying195⟩
def ti200:TI:=⟨2,16,[.v (.int .i64 0),.v (.int .i64 0)],.st [(0,3),(1,3)]⟩
def tok200:bQ Tryz.prog 200 ti200:=⟨by kernel_rfl,by simp[ti200,aC,Value.oneCell'],⟨_,Tryz.underlying200,rfl⟩⟩
def ti201:TI:=⟨2,16,[.v (.int .i64 0),.v (.int .i64 0)],.st [(0,3),(1,3)]⟩
def tok201:bQ Tryz.prog 201 ti201:=⟨by kernel_rfl,by simp[ti201,aC,Value.oneCell'],⟨_,Tryz.underlying201,rfl⟩⟩
def ti210:TI:=⟨3,24,[.v (.int .i64 0),.v (.int .i64 0),.v (.int .i64 0)],.st [(0,3),(1,3),(2,3)]⟩
def tok210:bQ Tryz.prog 210 ti210:=⟨by kernel_rfl,by simp[ti210,aC,Value.oneCell'],⟨_,Tryz.underlying210,rfl⟩⟩
def ti211:TI:=⟨3,24,[.v (.int .i64 0),.v (.int .i64 0),.v (.int .i64 0)],.st [(0,3),(1,3),(2,3)]⟩
def tok211:bQ Tryz.prog 211 ti211:=⟨by kernel_rfl,by simp[ti211,aC,Value.oneCell'],⟨_,Tryz.underlying211,rfl⟩⟩
def ti215:TI:=⟨2,16,[.v (.int .i64 0),.v (.int .i64 0)],.st [(0,3),(1,3)]⟩
def tok215:bQ Tryz.prog 215 ti215:=⟨by kernel_rfl,by simp[ti215,aC,Value.oneCell'],⟨_,Tryz.underlying215,rfl⟩⟩
def ti216:TI:=⟨2,16,[.v (.int .i64 0),.v (.int .i64 0)],.st [(0,3),(1,3)]⟩
def tok216:bQ Tryz.prog 216 ti216:=⟨by kernel_rfl,by simp[ti216,aC,Value.oneCell'],⟨_,Tryz.underlying216,rfl⟩⟩
def ti221:TI:=⟨2,16,[.v (.int .i64 0),.v (.int .i64 0)],.st [(0,3),(1,3)]⟩
def tok221:bQ Tryz.prog 221 ti221:=⟨by kernel_rfl,by simp[ti221,aC,Value.oneCell'],⟨_,Tryz.underlying221,rfl⟩⟩
def ti222:TI:=⟨2,16,[.v (.int .i64 0),.v (.int .i64 0)],.st [(0,3),(1,3)]⟩
def tok222:bQ Tryz.prog 222 ti222:=⟨by kernel_rfl,by simp[ti222,aC,Value.oneCell'],⟨_,Tryz.underlying222,rfl⟩⟩
def ti225:TI:=⟨3,24,[.v (.int .i64 0),.v (.int .i64 0),.v (.int .i64 0)],.st [(0,3),(1,3),(2,3)]⟩
def tok225:bQ Tryz.prog 225 ti225:=⟨by kernel_rfl,by simp[ti225,aC,Value.oneCell'],⟨_,Tryz.underlying225,rfl⟩⟩
def ti226:TI:=⟨3,24,[.v (.int .i64 0),.v (.int .i64 0),.v (.int .i64 0)],.st [(0,3),(1,3),(2,3)]⟩
def tok226:bQ Tryz.prog 226 ti226:=⟨by kernel_rfl,by simp[ti226,aC,Value.oneCell'],⟨_,Tryz.underlying226,rfl⟩⟩
def ti228:TI:=⟨1,24,[.z],.sl 222⟩
def tok228:bQ Tryz.prog 228 ti228:=⟨by kernel_rfl,by simp[ti228,aC,Value.oneCell'],Tryz.underlying228⟩
def ti259:TI:=⟨5,56,[.v (.int .i64 0),.v (.int .i64 0),.v (.int .i64 0),.v (.int .i64 0),.z],.st [(0,3),(1,3),(2,3),(3,3),(4,33)]⟩
def tok259:bQ Tryz.prog 259 ti259:=⟨by kernel_rfl,by simp[ti259,aC,Value.oneCell'],⟨_,Tryz.underlying259,rfl⟩⟩
def ti260:TI:=⟨5,56,[.v (.int .i64 0),.v (.int .i64 0),.v (.int .i64 0),.v (.int .i64 0),.z],.st [(0,3),(1,3),(2,3),(3,3),(4,33)]⟩
def tok260:bQ Tryz.prog 260 ti260:=⟨by kernel_rfl,by simp[ti260,aC,Value.oneCell'],⟨_,Tryz.underlying260,rfl⟩⟩
def ti262:TI:=⟨1,24,[.z],.sl 89⟩
def tok262:bQ Tryz.prog 262 ti262:=⟨by kernel_rfl,by simp[ti262,aC,Value.oneCell'],Tryz.underlying262⟩
def ti264:TI:=⟨3,40,[.z,.v (.int .i64 0),.v (.int .i64 0)],.st [(0,22),(1,3),(2,3)]⟩
def tok264:bQ Tryz.prog 264 ti264:=⟨by kernel_rfl,by simp[ti264,aC,Value.oneCell'],⟨_,Tryz.underlying264,rfl⟩⟩
def ti265:TI:=⟨3,40,[.z,.v (.int .i64 0),.v (.int .i64 0)],.st [(0,22),(1,3),(2,3)]⟩
def tok265:bQ Tryz.prog 265 ti265:=⟨by kernel_rfl,by simp[ti265,aC,Value.oneCell'],⟨_,Tryz.underlying265,rfl⟩⟩
def ti288:TI:=⟨1,8,[.v (.map none)],.mp 3 4 (.bool false)⟩
def tok288:bQ Tryz.prog 288 ti288:=⟨by kernel_rfl,by simp[ti288,aC,Value.oneCell'],⟨Tryz.underlying288,Tryz.underlying3,by kernel_rfl,rfl⟩⟩
def ti295:TI:=⟨1,8,[.v (.map none)],.mp 3 3 (.int .i64 0)⟩
def tok295:bQ Tryz.prog 295 ti295:=⟨by kernel_rfl,by simp[ti295,aC,Value.oneCell'],⟨Tryz.underlying295,Tryz.underlying3,by kernel_rfl,rfl⟩⟩
def ti309:TI:=⟨1,8,[.v (.int .u64 0)],.sc (.int .u64)⟩
def tok309:bQ Tryz.prog 309 ti309:=⟨by kernel_rfl,by simp[ti309,aC,Value.oneCell'],⟨Tryz.underlying309,trivial⟩⟩
def ti344:TI:=⟨1,24,[.z],.st [(0,24)]⟩
def tok344:bQ Tryz.prog 344 ti344:=⟨by kernel_rfl,by simp[ti344,aC,Value.oneCell'],⟨_,Tryz.underlying344,rfl⟩⟩
def ti351:TI:=⟨2,16,[.v (.int .i64 0),.v (.int .i64 0)],.st [(0,3),(1,3)]⟩
def tok351:bQ Tryz.prog 351 ti351:=⟨by kernel_rfl,by simp[ti351,aC,Value.oneCell'],⟨_,Tryz.underlying351,rfl⟩⟩
def ti353:TI:=⟨3,24,[.v (.int .i64 0),.v (.int .i64 0),.v (.int .i64 0)],.st [(0,3),(1,3),(2,3)]⟩
def tok353:bQ Tryz.prog 353 ti353:=⟨by kernel_rfl,by simp[ti353,aC,Value.oneCell'],⟨_,Tryz.underlying353,rfl⟩⟩
def ti355:TI:=⟨3,24,[.v (.int .i64 0),.v (.int .i64 0),.v (.int .i64 0)],.st [(0,3),(1,3),(2,3)]⟩
def tok355:bQ Tryz.prog 355 ti355:=⟨by kernel_rfl,by simp[ti355,aC,Value.oneCell'],⟨_,Tryz.underlying355,rfl⟩⟩
def ti357:TI:=⟨4,32,[.v (.int .i64 0),.v (.int .i64 0),.v (.int .i64 0),.v (.int .i64 0)],.st [(0,3),(1,3),(2,3),(3,3)]⟩
def tok357:bQ Tryz.prog 357 ti357:=⟨by kernel_rfl,by simp[ti357,aC,Value.oneCell'],⟨_,Tryz.underlying357,rfl⟩⟩
def ti400:TI:=⟨1,8,[.v (.int .i64 0)],.sc (.int .i64)⟩
def tok400:bQ Tryz.prog 400 ti400:=⟨by kernel_rfl,by simp[ti400,aC,Value.oneCell'],⟨Tryz.underlying400,trivial⟩⟩
def ti407:TI:=⟨1,4,[.v (.int .u32 0)],.sc (.int .u32)⟩
def tok407:bQ Tryz.prog 407 ti407:=⟨by kernel_rfl,by simp[ti407,aC,Value.oneCell'],⟨Tryz.underlying407,trivial⟩⟩
def ti409:TI:=⟨1,8,[.v (.int .u64 0)],.sc (.int .u64)⟩
def tok409:bQ Tryz.prog 409 ti409:=⟨by kernel_rfl,by simp[ti409,aC,Value.oneCell'],⟨Tryz.underlying409,trivial⟩⟩
def ti431:TI:=⟨1,24,[.z],.sl 479⟩
def tok431:bQ Tryz.prog 431 ti431:=⟨by kernel_rfl,by simp[ti431,aC,Value.oneCell'],Tryz.underlying431⟩
def ti436:TI:=⟨3,24,[.v (.int .i64 0),.v (.int .i64 0),.v (.int .i64 0)],.st [(0,3),(1,3),(2,3)]⟩
def tok436:bQ Tryz.prog 436 ti436:=⟨by kernel_rfl,by simp[ti436,aC,Value.oneCell'],⟨_,Tryz.underlying436,rfl⟩⟩
def ti461:TI:=⟨1,8,[.v (.int .u64 0)],.sc (.int .u64)⟩
def tok461:bQ Tryz.prog 461 ti461:=⟨by kernel_rfl,by simp[ti461,aC,Value.oneCell'],⟨Tryz.underlying461,trivial⟩⟩
def ti479:TI:=⟨2,16,[.v (.int .i64 0),.v (.int .i64 0)],.st [(0,3),(1,3)]⟩
def tok479:bQ Tryz.prog 479 ti479:=⟨by kernel_rfl,by simp[ti479,aC,Value.oneCell'],⟨_,Tryz.underlying479,rfl⟩⟩
def ti493:TI:=⟨2,16,[.v (.int .i64 0),.v (.int .i64 0)],.st [(0,3),(1,3)]⟩
def tok493:bQ Tryz.prog 493 ti493:=⟨by kernel_rfl,by simp[ti493,aC,Value.oneCell'],⟨_,Tryz.underlying493,rfl⟩⟩
def ti510:TI:=⟨0,0,[],.st [(0,509)]⟩
def tok510:bQ Tryz.prog 510 ti510:=⟨by kernel_rfl,by simp[ti510,aC,Value.oneCell'],⟨_,Tryz.underlying510,rfl⟩⟩
def ti511:TI:=⟨0,0,[],.st [(0,509)]⟩
def tok511:bQ Tryz.prog 511 ti511:=⟨by kernel_rfl,by simp[ti511,aC,Value.oneCell'],⟨_,Tryz.underlying511,rfl⟩⟩
def ti513:TI:=⟨1,1,[.v (.int .u8 0)],.sc (.int .u8)⟩
def tok513:bQ Tryz.prog 513 ti513:=⟨by kernel_rfl,by simp[ti513,aC,Value.oneCell'],⟨Tryz.underlying513,trivial⟩⟩
def ti514:TI:=⟨1,1,[.v (.int .u8 0)],.sc (.int .u8)⟩
def tok514:bQ Tryz.prog 514 ti514:=⟨by kernel_rfl,by simp[ti514,aC,Value.oneCell'],⟨Tryz.underlying514,trivial⟩⟩
def ti517:TI:=⟨1,4,[.v (.int .i32 0)],.sc (.int .i32)⟩
def tok517:bQ Tryz.prog 517 ti517:=⟨by kernel_rfl,by simp[ti517,aC,Value.oneCell'],⟨Tryz.underlying517,trivial⟩⟩
def ti518:TI:=⟨1,4,[.v (.int .i32 0)],.sc (.int .i32)⟩
def tok518:bQ Tryz.prog 518 ti518:=⟨by kernel_rfl,by simp[ti518,aC,Value.oneCell'],⟨Tryz.underlying518,trivial⟩⟩
def tab:List (Nat × TI):=[(3,ti3),(4,ti4),(2,ti2),(5,ti5),(6,ti6),(7,ti7),(8,ti8),(9,ti9),(10,ti10),(11,ti11),(12,ti12),(13,ti13),(14,ti14),(21,ti21),(22,ti22),(24,ti24),(25,ti25),(26,ti26),(27,ti27),(28,ti28),(29,ti29),(30,ti30),(31,ti31),(32,ti32),(33,ti33),(34,ti34),(35,ti35),(36,ti36),(37,ti37),(38,ti38),(39,ti39),(40,ti40),(41,ti41),(42,ti42),(43,ti43),(44,ti44),(45,ti45),(46,ti46),(47,ti47),(48,ti48),(49,ti49),(50,ti50),(51,ti51),(52,ti52),(53,ti53),(54,ti54),(55,ti55),(56,ti56),(57,ti57),(73,ti73),(74,ti74),(76,ti76),(77,ti77),(79,ti79),(81,ti81),(82,ti82),(83,ti83),(84,ti84),(88,ti88),(89,ti89),(97,ti97),(98,ti98),(101,ti101),(102,ti102),(103,ti103),(104,ti104),(105,ti105),(106,ti106),(107,ti107),(108,ti108),(109,ti109),(110,ti110),(111,ti111),(112,ti112),(113,ti113),(114,ti114),(115,ti115),(116,ti116),(117,ti117),(118,ti118),(119,ti119),(120,ti120),(121,ti121),(122,ti122),(123,ti123),(124,ti124),(151,ti151),(152,ti152),(166,ti166),(167,ti167),(168,ti168),(169,ti169),(195,ti195),(200,ti200),(201,ti201),(210,ti210),(211,ti211),(215,ti215),(216,ti216),(221,ti221),(222,ti222),(225,ti225),(226,ti226),(228,ti228),(259,ti259),(260,ti260),(262,ti262),(264,ti264),(265,ti265),(288,ti288),(295,ti295),(309,ti309),(344,ti344),(351,ti351),(353,ti353),(355,ti355),(357,ti357),(400,ti400),(407,ti407),(409,ti409),(431,ti431),(436,ti436),(461,ti461),(479,ti479),(493,ti493),(510,ti510),(511,ti511),(513,ti513),(514,ti514),(517,ti517),(518,ti518)]
def Rk:RI Tryz.prog tab:=⟨tok3,tok4,tok2,tok5,tok6,tok7,tok8,tok9,tok10,tok11,tok12,tok13,tok14,tok21,tok22,tok24,tok25,tok26,tok27,tok28,tok29,tok30,tok31,tok32,tok33,tok34,tok35,tok36,tok37,tok38,tok39,tok40,tok41,tok42,tok43,tok44,tok45,tok46,tok47,tok48,tok49,tok50,tok51,tok52,tok53,tok54,tok55,tok56,tok57,tok73,tok74,tok76,tok77,tok79,tok81,tok82,tok83,tok84,tok88,tok89,tok97,tok98,tok101,tok102,tok103,tok104,tok105,tok106,tok107,tok108,tok109,tok110,tok111,tok112,tok113,tok114,tok115,tok116,tok117,tok118,tok119,tok120,tok121,tok122,tok123,tok124,tok151,tok152,tok166,tok167,tok168,tok169,tok195,tok200,tok201,tok210,tok211,tok215,tok216,tok221,tok222,tok225,tok226,tok228,tok259,tok260,tok262,tok264,tok265,tok288,tok295,tok309,tok344,tok351,tok353,tok355,tok357,tok400,tok407,tok409,tok431,tok436,tok461,tok479,tok493,tok510,tok511,tok513,tok514,tok517,tok518,trivial⟩
def TE:Nat->Option TI:=Ji tab
def vu:∀t i,TE t=some i->bQ Tryz.prog t i:=EY Rk
def Rn:C->Value->C
 | .s .own rows,v=>.s (.tag v) rows
 | c,_=>c
def zD(u:Nat->Value):Nat->List C->List C
 | _,[]=>[]
 | j,c::cs=>Rn c (u j)::zD u (j+1) cs
def yo(u:Nat->Nat->Value):Nat->List MA->List (Nat × AV)
 | _,[]=>[]
 | i,.val a cs::A=>(i,.H (jY a) cs)::yo u (i+1) A
 | i,.mut a cs::A=>(i,.H (jY a) (zD (u i) 0 cs))::yo u (i+1) A
 | i,.ptr cs::A=>(i,.H .box cs)::yo u (i+1) A
def JA(p:Nat->Value):Nat->List MA->List (Nat × Value)
 | _,[]=>[]
 | i,.ptr _::A=>(i,p i)::JA p (i+1) A
 | i,_::A=>JA p (i+1) A
def EW:Nat->List MA->List (Nat × Nat)->List (Option Nat)
 | i,.val _ _::A,_::pl=>none::EW (i+1) A pl
 | i,.mut _ _::A,p::pl=>some p.1::EW (i+1) A pl
 | i,.ptr _::A,_::pl=>some i::EW (i+1) A pl
 | _,_,_=>[]
def Ht:List (Option Nat)->Bool
 | []=>true
 | none::l=>Ht l
 | some t::l=>l.all (λx=>match x with|some a=>!Nat.beq t a|none=>true)&&Ht l
def sles:List (Option Nat)->List Nat
 | []=>[]
 | none::l=>sles l
 | some t::l=>t::sles l
def TG(v:Value)(c y o:C):Prop:=
 match c with
 | .s .own _=>(match y with|.s (.tag v') rows=>v'=v/\o=.s .own rows|_=>False)
 | .s (.tag _) _=>False
 | .m _=>False
 | .it _ _=>False
 | c=>o=c
def QS(u:Nat->Value):Nat->List C->List C->List C->Prop
 | _,[],_,o=>o=[]
 | j,c::cs,y::xs,o::os=>TG (u j) c y o/\QS u (j+1) cs xs os
 | _,_,_,_=>False
def iP(u:Nat->Nat->Value)(F:Nat->AV):Nat->List MA->List (Nat × Nat)->List MA->Prop
 | _,[],_,[]=>True
 | i,.val _ _::A,_::pl,.val _ _::B=>iP u F (i+1) A pl B
 | i,.mut ag cs::A,p::pl,.mut a out::B=>(a=ag/\match F p.1 with|.H _ xs=>QS (u i) 0 cs (xs.drop p.2) out|_=>False)/\iP u F (i+1) A pl B
 | i,.ptr _::A,_::pl,.ptr out::B=>(match F i with|.H .box xs=>xs=out|_=>False)/\iP u F (i+1) A pl B
 | _,_,_,_=>False
inductive aW(k k':Kd)(cs cs':List C)(Q:Prop):Prop
 |mk_ (h:k=k'/\cs=cs'/\Q)
def aW.mk{k b:Kd}{cs a:List C}{Q:Prop}(h1:k=b)(c:cs=a)(d:Q):aW k b cs a Q:=by refine .mk_ ?_;exact⟨h1,c,d⟩
def CH:type_of% @aW.mk:=@aW.mk
def aW.out{k b:Kd}{cs a:List C}{Q:Prop}(h:aW k b cs a Q):k=b/\cs=a/\Q:=by obtain⟨h⟩:=h;exact h
def Rs(TE:Nat->Option TI)(d:List ResultVar)(k:Kd)(rcs:List C)(u:Nat->Nat->Value)(A B:List MA)(a:List (Nat × Nat)):Exit->(Nat->AV)->Prop:=λe F=>
 match e with
 | .normal=>resA TE F d (sles (EW 0 A a)) λb c=>aW (g9 b) k c rcs (iP u F 0 A a B)
 | .ret=>resA TE F d (sles (EW 0 A a)) λb c=>aW (g9 b) k c rcs (iP u F 0 A a B)
 | _=>False
section
variable{P:Program}{w0 w w1:World}{M S0 S:ah}{N:fC}{φ:Nat->ah}{F:Nat->AV}{a:Act}{TE:Nat->Option TI}
def fg.tag{Y:ah}{c:C}{v:Value}(h:fg w S Y c v):fg w S Y (Rn c v) v:=by
 cases h with
 | nil _ o a B=>cases o with
  | own=>exact .nil _ _ _ rfl
  | _=>exact .nil _ _ _ B
 | own _ o g k n l e u f B D E i p t K L M y=>cases o with
  | own=>exact .own _ _ g k n l e u f rfl D E i p t K L M y
  | X=>exact B.elim
  | tag z=>exact .own _ _ g k n l e u f B D E i p t K L M y
 | v _ x F=>exact .v _ _ F
 | x _ u F=>exact .x _ _ F
 | z _ a=>exact .z _ _
 | X _ g G k n l e u D E i N y=>exact .X _ g G k n l e u D E i N y
 | m _ b d O j t H P J q=>exact .m _ b d O j t H P J q
 | it _ r b since Q d seen j cur left t R H q y J T A=>exact .it _ r b since Q d seen j cur left t R H q y J T A
def fg.untag{Y:ah}{z v:Value}{rows:List (List C)}(h:fg w S Y (.s (.tag z) rows) v):v=z/\fg w S Y (.s .own rows) v:=by
 cases h with
 | nil _ o a d=>exact⟨Eq.symm d,.nil _ _ _ trivial⟩
 | own _ o g k n e rows u f d i j b c l p q r t=>exact⟨Eq.symm d,.own _ _ g k n e rows u f trivial i j b c l p q r t⟩
def pq(u:Nat->Value):∀(j:Nat)(cs:List C),(zD u j cs).length=cs.length
 | _,[]=>rfl
 | j,c::cs=>by simp[zD,pq u (j+1) cs]
def FC(u:Nat->Value):∀(a:Nat)(cs:List C)(j:Nat),(zD u a cs)[j]? = (cs[j]?).map λc=>Rn c (u (a+j))
 | _,[],j=>by simp[zD]
 | a,c::cs,0=>by simp[zD]
 | a,c::cs,j+1=>by simp only[zD,List.getElem?_cons_succ];rw[FC u (a+1) cs j,show a+1+j=a+(j+1) by omega]
def cV.tag{Y:ah}{cs:List C}{u:Nat->Value}(h:cV w S Y cs u):cV w S Y (zD u 0 cs) u:=by
 obtain⟨f,e,g,i⟩:=h;refine⟨f,λj c a=>?_,λj a=>g j (by rwa [pq]at a),λj k a b=>i j k (by rwa [pq]at a) (by rwa [pq]at b)⟩;rw[FC,Z6]at a;cases d:cs[j]? with
 | none=>rw[d]at a;cases a
 | some l=>
  rw[d]at a;simp only[I5,Z0]at a;subst a;exact(e j l d).tag
def celF(v:Value)(j:Nat):Value:=v.cells.toList.getD j undef
def bM.celF{Y:ah}{ag:Option Nat}{cs:List C}{v:Value}(h:bM w S Y ag cs v):cs.length=ag.getD 1/\v=mkv ag (celF v)/\cV w S Y cs (celF v):=by
 obtain⟨b,u,c,d⟩:=h;have g:=qu (ag:=ag) (u:=u) (λe=>by subst e;exact d.one (by simp at b;omega));have f:∀j,j<ag.getD 1->Ab.celF v j=u j:=λj a=>by
  unfold Ab.celF;rw[c,g];simp[List.getD,a]
 exact⟨b,c.trans (iU λj a=>(f j a).symm),d.congr λj a=>f j ω⟩
def QQ(u:Nat->Nat->Value)(i:Nat):MA->AV
 | .val a cs=>.H (jY a) cs
 | .mut a cs=>.H (jY a) (zD (u i) 0 cs)
 | .ptr cs=>.H .box cs
def AE{u:Nat->Nat->Value} : ∀{A:List MA}{vs:List Value}{V:Nat->ah}(i:Nat),LL w S V A vs->∀t,(lay (yo u i A) t=.dead)\/(∃m v,i<=t/\vs[t - i]? = some v/\A[t - i]? = some m/\lay (yo u i A) t=QQ u t m/\po w S (V (t - i)) m v)
 | [],_,_,i,_,t=>.inl rfl
 | m::A,[],_,i,h,t=>h.elim
 | m::A,v::vs,V,i,h,t=>by
  have c:lay (yo u i (m::A)) t=bif Nat.beq t i then QQ u i m else lay (yo u (i+1) A) t:=by cases m<;>rfl
  rw[c];cases a:Nat.beq t i with
  | true=>
   have:=C2 a;subst this;exact .inr ⟨m,v,C3 _,by simp,by simp,rfl,by rw[Nat.sub_self];exact h.1⟩
  | false=>
   have d:t≠i:=λe=>by subst e;rw[Nat.beq_refl]at a;cases a
   rcases AE (i+1) h.2 t with b|⟨f,g,b,j,k,l,n⟩
   ·exact .inl b
   refine .inr ⟨f,g,ω,?_,?_,l,?_⟩
   ·rw[show t - i=(t - (i+1))+1 by omega];simpa using j
   ·rw[show t - i=(t - (i+1))+1 by omega];simpa using k
   rw[show t - i=(t - (i+1))+1 by omega];exact n
def Ec:∀{A:List MA}{vs:List Value}{V:Nat->ah},LL w S V A vs->A.length=vs.length
 | [],[],_,_=>rfl
 | _::_,_::_,_,h=>by simp[Ec h.2]
 | [],_::_,_,h=>h.elim
 | _::_,[],_,h=>h.elim
def Jd{p:Nat->Value} : ∀{A:List MA}{i:Nat}{q:Nat × Value},q∈JA p i A->i<=q.1/\q.1<i+A.length/\q.2=p q.1
 | [],_,_,h=>by simp[JA]at h
 | m::A,i,q,h=>by
  have a:q∈JA p (i+1) A->i<=q.1/\q.1<i+(m::A).length/\q.2=p q.1:=λh=>by
   obtain⟨c,d,b⟩:=Jd h;exact⟨ω,by simp;omega,b⟩
  cases m with
  | ptr e=>
   rcases List.mem_cons.1 h with rfl|h
   ·exact⟨C3 _,by simp,rfl⟩
   exact a h
  | val=>exact a h
  | «mut»=>exact a h
def Jv{p:Nat->Value} : ∀{A:List MA}{i n:Nat}{cs:List C},A[n]? = some (.ptr cs)->(i+n,p (i+n))∈JA p i A
 | [],_,n,_,h=>by simp at h
 | m::A,i,0,cs,h=>by simp at h;subst h;simp[JA]
 | m::A,i,n+1,cs,h=>by
  have a:=Jv (p:=p) (i:=i+1) (show A[n]? = some (.ptr cs) by simpa using h);rw[show i+1+n=i+(n+1) by omega]at a;cases m with
  | ptr cs=>exact O5 _ a
  | val=>exact a
  | «mut»=>exact a
def RG(φ:Nat->ah):Option (Option Nat)->ah
 | some (some t)=>φ t
 | _=>NO
def BM{u:Nat->Value} : ∀{a:Nat}{cs xs b:List C},QS u a cs xs b->cs.length=b.length/\∀(j:Nat)(c o:C),cs[j]? = some c->b[j]? = some o->∃y,(eD c=true->xs[j]? = some y)/\TG (u (a+j)) c y o
 | _,[],xs,b,h=>by simp only[QS]at h;subst h;exact⟨rfl,λj c o h=>by simp at h⟩
 | _,_::_,[],_,h=>by simp only[QS]at h
 | _,_::_,_::_,[],h=>by simp only[QS]at h
 | a,p::cs,f::xs,q::b,h=>by
  simp only[QS]at h;obtain⟨g,i⟩:=BM h.2;refine⟨by simp[g],λj c o d e=>?_⟩;cases j with
  | zero=>simp at d e;subst d e;exact⟨f,λ_=>rfl,h.1⟩
  | succ j=>
   obtain⟨y,k,l⟩:=i j c o (by simpa using d) (by simpa using e);exact⟨y,λn=>by simpa using k n,by rw[show a+(j+1)=a+1+j by omega];exact l⟩
def NW{S' Y F:ah}{u L:Nat->Value}{cs xs G:List C}{off:Nat}(g:bn S w w1)(n:∀b o,S b o->S' b o)(h:cV w S Y cs u)(h':cV w1 S' F xs L)(i:QS u 0 cs (xs.drop off) G):cV w1 S' F G u:=by
 obtain⟨f,M,U,V⟩:=h;obtain⟨H,r,t,A⟩:=h';obtain⟨W,N⟩:=BM i;refine⟨λj b o=>off+j<xs.length/\H (off+j) b o,λj c q=>?_,λj q b o i=>t _ i.1 b o i.2,λj X q O P b o i p=>A _ _ i.1 p.1 ω b o i.2 p.2⟩;have Q:=(O2.1 q).1;have k:cs[j]? = some cs[j]:=I2 ω;obtain⟨y,l,a⟩:=N j _ c k q;rw[Z6]at a;have d:=M j _ k;generalize cs[j]=B at k a d l;have keep:eD B=false->c=B->fg w1 S' (λb o=>off+j<xs.length/\H (off+j) b o) c (u j):=λR e=>by
  subst e;exact((d.bare (F':=NO) R).keep g (λ_ _ h=>h.elim)).mono n (λ_ _ h=>h.elim)
 cases B with
 | v Z=>exact keep rfl a
 | x=>exact keep rfl a
 | z=>exact keep rfl a
 | m es=>exact a.elim
 | it=>exact a.elim
 | s o J=>
  cases o with
  | X=>exact keep rfl a
  | tag z=>exact a.elim
  | own=>
   have l:=l rfl;rw[List.getElem?_drop]at l;have D:=(O2.1 l).1;simp only[TG]at a;split at a
   case h_2=>exact a.elim
   rename_i v' E;obtain⟨rfl,rfl⟩:=a;obtain⟨T,K⟩:=(r _ _ l).untag;rw[T]at K;exact K.mono (λ_ _ h=>h) (λb o h=>⟨D,h⟩)
def bj.backs{E:World}{S':ah}{u:Nat->Nat->Value}(h:bj w0 M S0 N S' φ F a E)(e:bn S w E)(f:∀b o,S b o->S' b o):∀{A:List MA}{g:List (Nat × Nat)}{B:List MA}{vs:List Value}{V:Nat->ah}{i:Nat},LL w S V A vs->
  (∀j v,vs[j]? = some v->u (i+j)=celF v)->(∀j v cs,vs[j]? = some v->A[j]? = some (.ptr cs)->tvs a (i+j)=v)->iP u F i A g B->D6 E S' (λn=>RG φ (EW i A g)[n]?) B vs
 | [],g,B,vs,V,i,l,q,r,c=>by
  cases vs with
  | cons _ _=>exact l.elim
  | nil=>cases B with
   | nil=>trivial
   | cons _ _=>simp only[iP]at c
 | m::A,[],B,vs,V,i,l,q,r,c=>by cases m<;>simp only[iP]at c
 | m::A,p::g,[],vs,V,i,l,q,r,c=>by cases m<;>simp only[iP]at c
 | m::A,p::g,G::B,[],V,i,l,q,r,c=>l.elim
 | m::A,p::g,G::B,v::vs,V,i,l,q,r,c=>by
  have next:iP u F (i+1) A g B->D6 E S' (λn=>RG φ (EW (i+1) A g)[n]?) B vs:=λc=>
   bj.backs h e f l.2 (λj v H=>by rw[show i+1+j=i+(j+1) by omega];exact q (j+1) v (by simpa using H))
    (λj v cs H U=>by rw[show i+1+j=i+(j+1) by omega];exact r (j+1) v cs (by simpa using H) (by simpa using U)) c
  cases m with
  | val W cs=>
   cases G with
   | val C X=>simp only[iP]at c;exact⟨trivial,next c⟩
   | ptr=>simp only[iP]at c
   | «mut»=>simp only[iP]at c
  | «mut» W cs=>
   cases G with
   | val=>simp only[iP]at c
   | ptr=>simp only[iP]at c
   | «mut» C out=>
    simp only[iP]at c;obtain⟨⟨rfl,d⟩,J⟩:=c;refine⟨?_,next J⟩;have D:=bM.celF (show bM w S (V 0) C cs v from l.1);have K:u i=celF v:=q 0 v (by simp);have t:=h.slot p.1;cases y:F p.1 with
    | H k xs=>
     rw[y]at d t;simp only at d;rw[K]at d;obtain⟨P,Y,Q,L,R,T,O⟩:=t;refine⟨by rw[<-(BM d).1];exact D.1,celF v,D.2.1,?_⟩;exact(NW e f D.2.2 O d).mono (λ_ _ h=>h) (λb o c=>by simpa[EW,RG] using L b o c)
    | _=>rw[y]at d;exact d.elim
  | ptr cs=>
   cases G with
   | val=>simp only[iP]at c
   | «mut»=>simp only[iP]at c
   | ptr out=>
    simp only[iP]at c;refine⟨?_,next c.2⟩;have D:tvs a i=v:=r 0 v cs (by simp) (by simp);have t:=h.slot i;cases y:F i with
    | H k xs=>
     cases k with
     | box=>
      rw[y]at c t;have:=c.1;simp only at this;subst this;rw[D]at t;obtain⟨P,Y,Q,L,R,T,O⟩:=t;exact⟨P,Y,λb o c=>by simpa[EW,RG] using Q b o c,λb o c=>by simpa[EW,RG] using L b o c,R,T,O⟩
     | _=>rw[y]at c;exact c.1.elim
    | _=>rw[y]at c;exact c.1.elim
def ue:∀{l:List (Option Nat)},Ht l=true->∀(i a t c:Nat),i≠a->l[i]? = some (some t)->l[a]? = some (some c)->t≠c
 | [],_,i,a,t,c,_,h,_=>by simp at h
 | none::l,b,i,a,t,c,f,h,d=>by
  cases i with
  | zero=>simp at h
  | succ i=>cases a with
   | zero=>simp at d
   | succ a=>exact ue (l:=l) b i a t c ω (by simpa using h) (by simpa using d)
 | some j::l,b,i,a,t,c,f,h,d=>by
  simp only[Ht,I0]at b;have g:∀(n s:Nat),l[n]? = some (some s)->j≠s:=λn s k e=>by
   have:=v4.1 b.1 _ (Z1 k);simp only[Bool.not_eq_true']at this;rw[e,Nat.beq_refl]at this;cases this
  cases i with
  | zero=>
   simp at h;subst h;cases a with
   | zero=>exact absurd rfl f
   | succ a=>exact g a c (by simpa using d)
  | succ i=>cases a with
   | zero=>simp at d;subst d;exact λe=>g i t (by simpa using h) e.symm
   | succ a=>exact ue b.2 i a t c ω (by simpa using h) (by simpa using d)
def xU:∀{l:List (Option Nat)}{i t:Nat},l[i]? = some (some t)->t∈sles l
 | [],i,t,h=>by simp at h
 | none::l,i,t,h=>by
  cases i with
  | zero=>simp at h
  | succ i=>exact xU (l:=l) (i:=i) (by simpa using h)
 | some a::l,i,t,h=>by
  cases i with
  | zero=>simp at h;subst h;simp[sles]
  | succ i=>exact O5 _ (xU (l:=l) (i:=i) (by simpa using h))
def zg{φ:Nat->ah}{x:Option (Option Nat)}{b o:Nat}(h:RG φ x b o):∃t,x=some (some t)/\φ t b o:=by
 match x,h with
 | some (some t),h=>exact⟨t,rfl,h⟩
 | some none,h=>exact h.elim
 | none,h=>exact h.elim
def L2{f : Nat}{E : Func}{c : Code}{sh : Bool}{A B : List MA}{k : Kd}{rcs : List C}{mo : List (Nat × List Nat)}{n : Nat}(Q : List (Nat × Nat))(hTE : ∀t i, TE t = some i -> bQ P t i)(hf : P.funcs[f]? = some E)(hn : (E.name == "runtime.NumGoroutine") = false)(a:E.body=some c){ck:Nat->Array Oper->Bool}{D:fC->Nat->Array Oper->((Nat->AV)->Prop)->(Nat->AV)->Prop}(hD:∀N,uC P N ck (D N))(hc:fU ck c=true)(hN:A.length+(E.ntmps - A.length)=n)(hok:Ht (EW 0 A Q)=true)(hsh:sh=true\/ia rcs)(hp:∀(u:Nat->Nat->Value)(p:Nat->Value),aw P TE ⟨n,JA p 0 A,mo⟩ (D ⟨n,JA p 0 A,mo⟩) c (Rs TE E.results.toList k rcs u A B Q) (lay (yo u 0 A))):aT P f sh A B k rcs:=by
 refine⟨⟨E,hf,hn,by rw[a];rfl⟩,λw S V r hS hV hVd hA=>?_⟩;have hlen:=Ec hA;refine calls_of_wp hf a ?_
 let u:Nat->Nat->Value:=λi=>celF (r.getD i undef)
 let p:Nat->Value:=λi=>r.getD i undef
 have htv:∀t v,r[t]? = some v->tvs {tmps:=r.toArray++Array.replicate (E.ntmps - r.toArray.size) undef,defers:=[]} t=v:=λt v l=>by
  have H:=(O2.1 l).1;simp only[tvs,W6];rw[Array.getElem?_append_left (by simpa using H)];simp only[List.getElem?_toArray];rw[l];rfl
 have hst:St w (λb o=>∃i,V i b o) S ⟨n,JA p 0 A,mo⟩ (lay (yo u 0 A)) {tmps:=r.toArray++Array.replicate (E.ntmps - r.toArray.size) undef,defers:=[]} w:=by
  refine⟨S,V,λt=>?_,hVd,λt b o h=>(hV t b o h).2,λt b o h=>⟨(hV t b o h).1,.inr ⟨t,h⟩⟩,λ_ _ h=>h,λb o h=>⟨hS b o h,.inl h⟩,CZ _ _,by simp;omega,rfl,λq hq=>?_⟩
  ·rcases AE (u:=u) 0 hA t with J|⟨m,v,-,l,h2',G,U⟩
   ·rw[J];trivial
   rw[G];rw[Nat.sub_zero]at l U;rw[htv t v l];have hu:u t=celF v:=by show celF (r.getD t undef)=_;rw[List.getD,l];rfl
   cases m with
   | val O K=>exact(bM.mono (show bM w S NO O K v from U) (λ_ _ h=>h) (λ_ _ h=>h.elim)).slot
   | «mut» O K=>
    obtain⟨e1,e2,e3⟩:=bM.celF (show bM w S (V t) O K v from U);refine bM.slot ⟨by rw[pq];exact e1,celF v,e2,?_⟩;rw[hu];exact e3.tag
   | ptr K=>exact U
  obtain⟨-,J,l⟩:=Jd hq;rw[l];have H:q.1<r.length:=ω
  refine htv _ _ ?_;show r[q.1]? = some (r.getD q.1 undef);rw[List.getD,I2 H];rfl
 refine i6 hTE (hD _) c hc _ _ _ _ w (hp u p) hst λe F' W y he hs'=>?_
 obtain⟨S',φ',h⟩:=hs';have fin:resA TE F' E.results.toList (sles (EW 0 A Q)) (λsh K=>aW (g9 sh) k K rcs (iP u F' 0 A Q B))->W.defers=[]/\∃v,(results E W.tmps).run P y=.ok v y/\(∃v',Ending.returned v=.returned v'/\bS (λb o=>∃i,V i b o) w y/\∃(X:ah)(Z:Nat->ah)(S1:ah),
     (∀b o,X b o->(∃i,V i b o)\/(b<y.heap.size/\w.heap.size<=b))/\(∀i b o,Z i b o->(∃i,V i b o)\/(b<y.heap.size/\w.heap.size<=b))/\
     (∀b o,S1 b o->(sh=true/\S b o)\/(∃i,V i b o)\/(b<y.heap.size/\w.heap.size<=b))/\
     (∀i i',i≠i'->∀b o,Z i b o->¬Z i' b o)/\(∀i b o,X b o->¬Z i b o)/\(∀b o,X b o->¬S1 b o)/\(∀i b o,Z i b o->¬S1 b o)/\
     fX y NO k rcs.length v'/\cV y S1 X rcs (cg y k v')/\D6 y (λb o=>S b o\/S1 b o) Z B r):=by
  intro hr;obtain⟨shs,K,d,u',hfin,hrun,M,hln,hL,hcells,L,hrow⟩:=h.resA hTE hr;obtain⟨rfl,rfl,R⟩:=hfin.out;refine⟨h.defers,?_⟩;have T:(results E W.tmps).run P y=.ok (if h:d.toArray.size=1 then d.toArray[0] else .tuple d.toArray) y:=by
   have e:results E W.tmps=(do let r <-E.results.mapM (AK W.tmps);pure (if h:r.size=1 then r[0] else .tuple r)):=by
    unfold results
    congr 1
   rw[e,<-Array.toArray_toList (xs:=E.results),List.mapM_toArray];simp only[Sem.run_bind,Sem.run_map,hrun,Result.andThen_ok,Sem.run_pure]
  have hex:∀t b o,φ' t b o->(∃i,V i b o)\/(b<y.heap.size/\w.heap.size<=b):=λt b o a=>(h.ex t b o a).2.elim (λh'=>.inr ⟨(h.ex t b o a).1,h'⟩) .inl
  have hsameS:bn S w y:=λb o a=>by
   have H:=hS b o a;exact⟨h.old.cel b o H (λ⟨i,hi⟩=>(hV i b o hi).2 a),h.old.fro b o H (λ⟨i,hi⟩=>(hV i b o hi).2 a)⟩
  have hm:=h.backs (u:=u) hsameS h.sub hA (λj v hj=>by show celF (r.getD (0+j) undef)=_;rw[Z6,List.getD,hj];rfl) (λj v K hj hc=>by
    have:=h.par _ (Jv (p:=p) (i:=0) hc);rw[this];show r.getD (0+j) undef=v;rw[Z6,List.getD,hj];rfl) R
  refine⟨_,T,_,rfl,h.old,λb o=>∃t,t∉sles (EW 0 A Q)/\φ' t b o,λi=>RG φ' (EW 0 A Q)[i]?,λb o=>(sh=true/\S' b o)\/(S' b o/\((∃i,V i b o)\/w.heap.size<=b)),λb o ⟨t,_,a⟩=>hex t b o a,λi b o a=>?_,λb o a=>?_,λi i' hne b o a g=>?_,λi b o ⟨t,ht,a⟩ g=>?_,λb o ⟨t,_,a⟩ g=>h.disS t b o a (g.elim (·.2) (·.1)),λi b o a g=>?_,?_⟩
  ·obtain⟨t,-,a⟩:=zg a
   exact hex t b o a
  ·rcases a with⟨J,l⟩|⟨J,l⟩
   ·rcases(h.sup b o l).2 with G|G|G
    ·exact .inl ⟨J,G⟩
    ·exact .inr (.inr ⟨(h.sup b o l).1,G⟩)
    exact .inr (.inl G)
   rcases l with l|l
   ·exact .inr (.inl l)
   exact .inr (.inr ⟨(h.sup b o J).1,l⟩)
  ·obtain⟨t,e1,a⟩:=zg a
   obtain⟨t',e2,g⟩:=zg g;exact h.dis t t' (ue hok i i' t t' hne e1 e2) b o a g
  ·obtain⟨t',e2,g⟩:=zg g
   exact h.dis t t' (λe=>ht (by rw[e];exact xU e2)) b o a g
  ·obtain⟨t,-,a⟩:=zg a
   exact h.disS t b o a (g.elim (·.2) (·.1))
  have hk:fX y NO (g9 shs) K.length (if h:d.toArray.size=1 then d.toArray[0] else .tuple d.toArray)/\cV y S' (λb o=>∃t,t∉sles (EW 0 A Q)/\φ' t b o) K (cg y (g9 shs) (if h:d.toArray.size=1 then d.toArray[0] else .tuple d.toArray)):=by
   match shs,M,L,hL with
   | [],M,_,hL=>
    cases d with
    | cons _ _=>exact M.elim
    | nil=>
     have:K=[]:=S7 (by simpa[oW] using hL.symm);subst this;exact⟨⟨_,rfl,trivial,rfl⟩,cV.nil _ _ _ _⟩
   | [O],_,L,_=>
    obtain⟨v,rfl,hv⟩:=L O rfl;have:=hv.slot (F:=F') (tv:=tvs W);obtain⟨X1,Y,J,l,G,U,h5⟩:=this;refine⟨?_,h5.mono (λ_ _ h=>h) l⟩;cases O<;>exact U
   | O::ag2::sh,M,_,hL=>
    have hsz:¬d.toArray.size=1:=by
     match d,M with
     | [],M=>simp
     | [v],M=>cases O<;>cases ag2<;>exact M.2.elim
     | _::_::_,_=>simp
    rw[dif_neg hsz];refine⟨⟨_,rfl,M,hL⟩,hrow.congr λj hj=>?_⟩;simp only[cg,g9,lH,hcells];simp[List.getD,hj]
  refine⟨hk.1,?_,hm.mono λb o a=>?_⟩
  ·rcases hsh with J|J
   ·exact hk.2.mono (λb o a=>.inl ⟨J,a⟩) (λ_ _ h=>h)
   exact(hk.2.fresh J).mono (λ_ _ h=>h.elim) (λ_ _ h=>h)
  rcases(h.sup b o a).2 with G|G|G
  ·exact .inl G
  ·exact .inr (.inr ⟨a,.inr G⟩)
  exact .inr (.inr ⟨a,.inl G⟩)
 cases e with
 | normal=>exact fin he
 | ret=>exact fin he
 | _=>exact he.elim
end
abbrev I(z:Int):C:=.v (.int .i64 z)
abbrev B(b:Bool):C:=.v (.bool b)
def rI(_:dY)(z:Int):List C:=[I z]
def rB(_:dY)(b:Bool):List C:=[B b]
def oy(z:Int):ia (rI .own z):=⟨trivial,trivial⟩
def FO(b:Bool):ia (rB .own b):=⟨trivial,trivial⟩
def nq(z:Int):Prop:=-9223372036854775808<=z/\z<=9223372036854775807
def TW(_:Bool):Prop:=True
def nL : Tryz.prog.follows .mixedOrders=true:=by kernel_rfl
def Tv{n f : Nat}{mo : List (Nat × List Nat)}{a : Func}{c : Code}{sh : Bool}{A : List RA}{k : Kd}{rcs : List C}(d : Tryz.prog.funcs[f]? = some a)(e : (a.name == "runtime.NumGoroutine") = false)(g : a.body = some c){tb : List (Nat × Nat × List Nat)}(h : fU (mJ tb) c = true)(i:A.length+(a.ntmps - A.length)=n)(b:sh=true\/ia rcs)(j:aw Tryz.prog TE ⟨n,[],mo⟩ (DF Tryz.prog TE ⟨n,[],mo⟩ tb) c (QF TE a.results.toList k rcs) (lay (wa 0 A))):ar Tryz.prog f sh A k rcs:=
 L9 vu d e g (oe vu nL ⟨n,[],mo⟩ tb) h i rfl b j
def Tp{n f : Nat}{mo : List (Nat × List Nat)}{a : Func}{c : Code}{sh : Bool}{A B : List MA}{k : Kd}{rcs : List C}(b : List (Nat × Nat))(g : Tryz.prog.funcs[f]? = some a)(h : (a.name == "runtime.NumGoroutine") = false)(i : a.body = some c){tb : List (Nat × Nat × List Nat)}(j : fU (mJ tb) c = true)(l:A.length+(a.ntmps - A.length)=n)(d:Ht (EW 0 A b)=true)(e:sh=true\/ia rcs)(o:∀(u:Nat->Nat->Value)(p:Nat->Value),aw Tryz.prog TE ⟨n,JA p 0 A,mo⟩ (DF Tryz.prog TE ⟨n,JA p 0 A,mo⟩ tb) c (Rs TE a.results.toList k rcs u A B b) (lay (yo u 0 A))):aT Tryz.prog f sh A B k rcs:=
 L2 b vu g h i (λN=>oe vu nL N tb) j l d e o
def Tx{n f t : Nat}{mo : List (Nat × List Nat)}{a : Func}{c : Code}{A : List RA}{rcs : List C}(b : Tryz.prog.funcs[f]? = some a)(d : (a.name == "runtime.NumGoroutine") = false)(e : a.body = some c){tb : List (Nat × Nat × List Nat)}(g : fU (mJ tb) c = true)(h:A.length+(a.ntmps - A.length)=n)(i:a.results = #[.tmp t])(j:aw Tryz.prog TE ⟨n,[],mo⟩ (DF Tryz.prog TE ⟨n,[],mo⟩ tb) c (Tt t rcs) (lay (wa 0 A))):rO Tryz.prog f true A .box rcs:=
 KJ vu b d e (oe vu nL ⟨n,[],mo⟩ tb) g h rfl i j
def eP{x:Int}(h1 : -9223372036854775808<=x)(a:x<=9223372036854775807):IntKind.i64.wrap x=x:=IntWalk.i64_in x (by constructor<;>assumption)
def Nm:RA->RA->Prop
 | .val ag cs,.val ag' cs'=>ag=ag'/\cs=cs'
 | .ptr cs,.ptr cs'=>cs=cs'
 | A,a=>A=a
def Nm.eq{A a:RA}(h:Nm A a):A=a:=by
 unfold Nm at h;split at h
 ·obtain⟨rfl,rfl⟩:=h;rfl
 ·rw[h]
 exact h
def Gd:List RA->List RA->Prop
 | [],[]=>True
 | A::As,B::Bs=>Nm A B/\Gd As Bs
 | _,_=>False
def Gd.eq:∀{A a:List RA},Gd A a->A=a
 | [],[],_=>rfl
 | A::As,B::Bs,h=>by rw[Nm.eq h.1,Gd.eq h.2]
 | [],_::_,h=>h.elim
 | _::_,[],h=>h.elim
def Cl.eq{P:Program}{f:Nat}{b:Bool}{A a:List RA}{K:AV->Prop}{k:Kd}{rcs:List C}(h:ar P f false a k rcs)(c:Gd A a)(d:K (.H k rcs)):Cl P f b A K:=by rw[c.eq];exact C8 h d
def CG:type_of% @Cl.eq:=@Cl.eq
def zh{n b:Nat}(h:n<=1048576)(a:b<=1000):n*b<=140737488355328:=Z4 (Nat.mul_le_mul h a) (by decide)
def Bf.NB{a b:Bool}{X Y:Prop}(h1:a≠b->X)(c:a=b->Y):Bf (a != b) X Y:=by
 refine Bf.P (λh=>h1 ?_) (λh=>c ?_)
 ·simpa using h
 simpa using h
def Rw.one{a:List C}{off i k j:Nat}{K:List C->Nat->Prop}{o:dY}{rows:List (List C)}{r:List C}(h1:a[off]? = some (.s o rows))(b:rows[i]? = some r)(c:r.length=k)(d:K r j):Rw a off [(i,k,j)] K:=
 Rw.mk (r:=r) (j:=j) (by simp[ch,h1,b,c]) d
def CJ:type_of% @Rw.one:=@Rw.one
section
variable{α:Type}{A B:List α}
end
def aa{α β:Type}{f:α->β}{l:List α}{k:Nat}{x:α}(h:l[k]? = some x):(l.map f)[k]? = some (f x):=by simp[h]
def aD(o:dY)(x:List Int):List C:=[.s o (x.map (rI o))]
def eg(x:List Int):eG (aD .own x)=aD .X x:=by simp[eG,aD,rI,eG]
def bH(x:List Int):ia (aD .own x):=⟨⟨.inl λh=>(by cases h),bf _ _ λy _=>oy y⟩,trivial⟩
def fJ(x:List Int):Prop:=x.length<=9223372036854775807/\∀y∈x,nq y
def sN(x:List Int):Prop:=x.length<=1048576
def jI(o:dY)(x:List (List Int)):List C:=[.s o (x.map (aD o))]
def RR(x:List (List Int)):eG (jI .own x)=jI .X x:=by simp[eG,jI,eg,<-cw,Y5]
def Ej(x:List (List Int)):Prop:=x.length<=9223372036854775807/\∀y∈x,fJ y
def ye(x:List (List Int)):Prop:=x.length<=1048576/\∀y∈x,sN y
def xJ(o:dY)(x:List Bool):List C:=[.s o (x.map (rB o))]
def PP(x:List Bool):Prop:=x.length<=9223372036854775807/\∀y∈x,TW y
def MD(x:List Bool):Prop:=x.length<=1048576
structure aV where
 S:List (List Int)
 a3:List Bool
deriving DecidableEq,Inhabited
def aV.enc(o:dY)(x:aV):List C:=[.s o (x.S.map (aD o)),.s o (x.a3.map (rB o))]
def aV.enc_fz(x:aV):eG (aV.enc .own x)=aV.enc .X x:=by simp[eG,aV.enc,rB,eg,<-cw,Y5]
def aV.enc_fr(x:aV):ia (aV.enc .own x):=⟨⟨.inl λh=>(by cases h),bf _ _ λy _=>bH y⟩,⟨.inl λh=>(by cases h),bf _ _ λy _=>FO y⟩,trivial⟩
def aV.wf(x:aV):Prop:=Ej x.S/\PP x.a3
def aV.sml(x:aV):Prop:=ye x.S/\MD x.a3
structure bh where
 j:Int
 e:Int
deriving DecidableEq,Inhabited
def bh.enc(o:dY)(x:bh):List C:=[I x.j,I x.e]
def bh.enc_fz(x:bh):eG (bh.enc .own x)=bh.enc .X x:=by simp[eG,bh.enc]
def bh.enc_fr(x:bh):ia (bh.enc .own x):=⟨trivial,trivial,trivial⟩
def bh.wf(x:bh):Prop:=nq x.j/\nq x.e
def bh.sml(_:bh):Prop:=True
def yt(o:dY)(x:List bh):List C:=[.s o (x.map (bh.enc o))]
def Lb(x:List bh):Prop:=x.length<=9223372036854775807/\∀y∈x,bh.wf y
def GC(x:List bh):Prop:=x.length<=1048576/\∀y∈x,bh.sml y
structure aG where
 J:List bh
deriving DecidableEq,Inhabited
def aG.enc(o:dY)(x:aG):List C:=[.s o (x.J.map (bh.enc o))]
def aG.enc_fz(x:aG):eG (aG.enc .own x)=aG.enc .X x:=by simp[eG,aG.enc,bh.enc_fz,<-cw,Y5]
def Ca:type_of% @aG.enc_fz:=@aG.enc_fz
def aG.enc_fr(x:aG):ia (aG.enc .own x):=⟨⟨.inl λh=>(by cases h),bf _ _ λy _=>bh.enc_fr y⟩,trivial⟩
def aG.wf(x:aG):Prop:=Lb x.J
def aG.sml(x:aG):Prop:=GC x.J
structure aR where
 V:aV
 Q:aG
deriving DecidableEq,Inhabited
def aR.enc(o:dY)(x:aR):List C:=[.s o (x.V.S.map (aD o)),.s o (x.V.a3.map (rB o)),.s o (x.Q.J.map (bh.enc o))]
def aR.enc_fz(x:aR):eG (aR.enc .own x)=aR.enc .X x:=by simp[eG,aR.enc,bh.enc_fz,rB,eg,<-cw,Y5]
def aR.enc_fr(x:aR):ia (aR.enc .own x):=⟨⟨.inl λh=>(by cases h),bf _ _ λy _=>bH y⟩,⟨.inl λh=>(by cases h),bf _ _ λy _=>FO y⟩,⟨.inl λh=>(by cases h),bf _ _ λy _=>bh.enc_fr y⟩,trivial⟩
def aR.wf(x:aR):Prop:=aV.wf x.V/\aG.wf x.Q
def aR.sml(x:aR):Prop:=aV.sml x.V/\aG.sml x.Q
structure af where
 F:aR
 Calls:Int
 w:List Int
deriving DecidableEq,Inhabited
def af.enc(o:dY)(x:af):List C:=[.s o (x.F.V.S.map (aD o)),.s o (x.F.V.a3.map (rB o)),.s o (x.F.Q.J.map (bh.enc o)),I x.Calls,.s o (x.w.map (rI o))]
def af.enc_fz(x:af):eG (af.enc .own x)=af.enc .X x:=by simp[eG,af.enc,bh.enc_fz,rB,rI,eg,<-cw,Y5]
def CT:type_of% @af.enc_fz:=@af.enc_fz
def af.enc_fr(x:af):ia (af.enc .own x):=⟨⟨.inl λh=>(by cases h),bf _ _ λy _=>bH y⟩,⟨.inl λh=>(by cases h),bf _ _ λy _=>FO y⟩,⟨.inl λh=>(by cases h),bf _ _ λy _=>bh.enc_fr y⟩,trivial,⟨.inl λh=>(by cases h),bf _ _ λy _=>oy y⟩,trivial⟩
def Cb:type_of% @af.enc_fr:=@af.enc_fr
def af.wf(x:af):Prop:=aR.wf x.F/\nq x.Calls/\fJ x.w
def af.sml(x:af):Prop:=aR.sml x.F/\sN x.w
structure aA where
 At:Int
 b0:Int
deriving DecidableEq,Inhabited
def aA.enc(o:dY)(x:aA):List C:=[I x.At,I x.b0]
def aA.enc_fz(x:aA):eG (aA.enc .own x)=aA.enc .X x:=by simp[eG,aA.enc]
def aA.enc_fr(x:aA):ia (aA.enc .own x):=⟨trivial,trivial,trivial⟩
def aA.wf(x:aA):Prop:=nq x.At/\nq x.b0
def aA.sml(_:aA):Prop:=True
def bN(o:dY)(x:List aA):List C:=[.s o (x.map (aA.enc o))]
def eR(x:List aA):eG (bN .own x)=bN .X x:=by simp[eG,bN,aA.enc_fz,<-cw,Y5]
def mt(x:List aA):ia (bN .own x):=⟨⟨.inl λh=>(by cases h),bf _ _ λy _=>aA.enc_fr y⟩,trivial⟩
def LF(x:List aA):Prop:=x.length<=9223372036854775807/\∀y∈x,aA.wf y
def iH(x:List aA):Prop:=x.length<=1048576/\∀y∈x,aA.sml y
structure ax where
 R:Int
 d:Int
 b2:Int
deriving DecidableEq,Inhabited
def ax.enc(o:dY)(x:ax):List C:=[I x.R,I x.d,I x.b2]
def ax.enc_fz(x:ax):eG (ax.enc .own x)=ax.enc .X x:=by simp[eG,ax.enc]
def ax.enc_fr(x:ax):ia (ax.enc .own x):=⟨trivial,trivial,trivial,trivial⟩
def ax.wf(x:ax):Prop:=nq x.R/\nq x.d/\nq x.b2
def ax.sml(_:ax):Prop:=True
def bX(o:dY)(x:List ax):List C:=[.s o (x.map (ax.enc o))]
def rQ(x:List ax):eG (bX .own x)=bX .X x:=by simp[eG,bX,ax.enc_fz,<-cw,Y5]
def xw(x:List ax):ia (bX .own x):=⟨⟨.inl λh=>(by cases h),bf _ _ λy _=>ax.enc_fr y⟩,trivial⟩
def Mc(x:List ax):Prop:=x.length<=9223372036854775807/\∀y∈x,ax.wf y
def dS(x:List ax):Prop:=x.length<=1048576/\∀y∈x,ax.sml y
structure aB where
 R:Int
 a4:Int
 u:Int
deriving DecidableEq,Inhabited
def aB.enc(o:dY)(x:aB):List C:=[I x.R,I x.a4,I x.u]
def aB.enc_fz(x:aB):eG (aB.enc .own x)=aB.enc .X x:=by simp[eG,aB.enc]
def aB.enc_fr(x:aB):ia (aB.enc .own x):=⟨trivial,trivial,trivial,trivial⟩
def aB.wf(x:aB):Prop:=nq x.R/\nq x.a4/\nq x.u
def aB.sml(_:aB):Prop:=True
def cx(o:dY)(x:List aB):List C:=[.s o (x.map (aB.enc o))]
def EO(x:List aB):eG (cx .own x)=cx .X x:=by simp[eG,cx,aB.enc_fz,<-cw,Y5]
def Lg(x:List aB):Prop:=x.length<=9223372036854775807/\∀y∈x,aB.wf y
def dQ(x:List aB):Prop:=x.length<=1048576/\∀y∈x,aB.sml y
structure bt where
 Id:Int
 Addr:Int
 u:Int
 a5:Int
deriving DecidableEq,Inhabited
def bt.enc(o:dY)(x:bt):List C:=[I x.Id,I x.Addr,I x.u,I x.a5]
def bt.enc_fz(x:bt):eG (bt.enc .own x)=bt.enc .X x:=by simp[eG,bt.enc]
def bt.enc_fr(x:bt):ia (bt.enc .own x):=⟨trivial,trivial,trivial,trivial,trivial⟩
def bt.wf(x:bt):Prop:=nq x.Id/\nq x.Addr/\nq x.u/\nq x.a5
def bt.sml(_:bt):Prop:=True
def pQ(o:dY)(x:List bt):List C:=[.s o (x.map (bt.enc o))]
def La(x:List bt):eG (pQ .own x)=pQ .X x:=by simp[eG,pQ,bt.enc_fz,<-cw,Y5]
def Qy(x:List bt):Prop:=x.length<=9223372036854775807/\∀y∈x,bt.wf y
def M9(x:List bt):Prop:=x.length<=1048576/\∀y∈x,bt.sml y
structure aE where
 b:List (List Int)
deriving DecidableEq,Inhabited
def aE.enc(o:dY)(x:aE):List C:=[.s o (x.b.map (aD o))]
def aE.enc_fz(x:aE):eG (aE.enc .own x)=aE.enc .X x:=by simp[eG,aE.enc,eg,<-cw,Y5]
def aE.enc_fr(x:aE):ia (aE.enc .own x):=⟨⟨.inl λh=>(by cases h),bf _ _ λy _=>bH y⟩,trivial⟩
def aE.wf(x:aE):Prop:=Ej x.b
def aE.sml(x:aE):Prop:=ye x.b
def pC(o:dY)(x:List aE):List C:=[.s o (x.map (aE.enc o))]
def K5(x:List aE):Prop:=x.length<=9223372036854775807/\∀y∈x,aE.wf y
def GX(x:List aE):Prop:=x.length<=1048576/\∀y∈x,aE.sml y
structure dx where
 To:Int
 Addr:Int
deriving DecidableEq,Inhabited
def dx.enc(o:dY)(x:dx):List C:=[I x.To,I x.Addr]
def dx.enc_fz(x:dx):eG (dx.enc .own x)=dx.enc .X x:=by simp[eG,dx.enc]
def dx.enc_fr(x:dx):ia (dx.enc .own x):=⟨trivial,trivial,trivial⟩
def dx.wf(x:dx):Prop:=nq x.To/\nq x.Addr
def dx.sml(_:dx):Prop:=True
def cN(o:dY)(x:List dx):List C:=[.s o (x.map (dx.enc o))]
def rx(x:List dx):eG (cN .own x)=cN .X x:=by simp[eG,cN,dx.enc_fz,<-cw,Y5]
def rr(x:List dx):ia (cN .own x):=⟨⟨.inl λh=>(by cases h),bf _ _ λy _=>dx.enc_fr y⟩,trivial⟩
def Ng(x:List dx):Prop:=x.length<=9223372036854775807/\∀y∈x,dx.wf y
def LE(x:List dx):Prop:=x.length<=1048576/\∀y∈x,dx.sml y
def x6(o:dY)(x:List (List dx)):List C:=[.s o (x.map (cN o))]
def Kq(x:List (List dx)):Prop:=x.length<=9223372036854775807/\∀y∈x,Ng y
def Hl(x:List (List dx)):Prop:=x.length<=1048576/\∀y∈x,LE y
structure aK where
 U:List (List dx)
 a1:List (List Int)
deriving DecidableEq,Inhabited
def aK.enc(o:dY)(x:aK):List C:=[.s o (x.U.map (cN o)),.s o (x.a1.map (aD o))]
def aK.enc_fz(x:aK):eG (aK.enc .own x)=aK.enc .X x:=by simp[eG,aK.enc,rx,eg,<-cw,Y5]
def aK.enc_fr(x:aK):ia (aK.enc .own x):=⟨⟨.inl λh=>(by cases h),bf _ _ λy _=>rr y⟩,⟨.inl λh=>(by cases h),bf _ _ λy _=>bH y⟩,trivial⟩
def aK.wf(x:aK):Prop:=Kq x.U/\Ej x.a1
def aK.sml(x:aK):Prop:=Hl x.U/\ye x.a1
structure aQ where
 Addr:Int
 d:Int
 b7:Int
deriving DecidableEq,Inhabited
def aQ.enc(o:dY)(x:aQ):List C:=[I x.Addr,I x.d,I x.b7]
def aQ.enc_fz(x:aQ):eG (aQ.enc .own x)=aQ.enc .X x:=by simp[eG,aQ.enc]
def aQ.enc_fr(x:aQ):ia (aQ.enc .own x):=⟨trivial,trivial,trivial,trivial⟩
def aQ.wf(x:aQ):Prop:=nq x.Addr/\nq x.d/\nq x.b7
def aQ.sml(_:aQ):Prop:=True
def cY(o:dY)(x:List aQ):List C:=[.s o (x.map (aQ.enc o))]
def Gh(x:List aQ):eG (cY .own x)=cY .X x:=by simp[eG,cY,aQ.enc_fz,<-cw,Y5]
def vt(x:List aQ):ia (cY .own x):=⟨⟨.inl λh=>(by cases h),bf _ _ λy _=>aQ.enc_fr y⟩,trivial⟩
def Kx(x:List aQ):Prop:=x.length<=9223372036854775807/\∀y∈x,aQ.wf y
def lN(x:List aQ):Prop:=x.length<=1048576/\∀y∈x,aQ.sml y
structure bL where
 c1:Int
 a6:List aQ
deriving DecidableEq,Inhabited
def bL.enc(o:dY)(x:bL):List C:=[I x.c1,.s o (x.a6.map (aQ.enc o))]
def bL.enc_fz(x:bL):eG (bL.enc .own x)=bL.enc .X x:=by simp[eG,bL.enc,aQ.enc_fz,<-cw,Y5]
def bL.enc_fr(x:bL):ia (bL.enc .own x):=⟨trivial,⟨.inl λh=>(by cases h),bf _ _ λy _=>aQ.enc_fr y⟩,trivial⟩
def bL.wf(x:bL):Prop:=nq x.c1/\Kx x.a6
def bL.sml(x:bL):Prop:=lN x.a6
structure bY where
 a2:Int
 a0:Int
 S:List Int
deriving DecidableEq,Inhabited
def bY.enc(o:dY)(x:bY):List C:=[I x.a2,I x.a0,.s o (x.S.map (rI o))]
def bY.enc_fz(x:bY):eG (bY.enc .own x)=bY.enc .X x:=by simp[eG,bY.enc,rI,<-cw,Y5]
def bY.enc_fr(x:bY):ia (bY.enc .own x):=⟨trivial,trivial,⟨.inl λh=>(by cases h),bf _ _ λy _=>oy y⟩,trivial⟩
def bY.wf(x:bY):Prop:=nq x.a2/\nq x.a0/\fJ x.S
def bY.sml(x:bY):Prop:=sN x.S
structure cn where
 W:bY
 b1:Int
 a:Int
deriving DecidableEq,Inhabited
def cn.enc(o:dY)(x:cn):List C:=[I x.W.a2,I x.W.a0,.s o (x.W.S.map (rI o)),I x.b1,I x.a]
def cn.enc_fz(x:cn):eG (cn.enc .own x)=cn.enc .X x:=by simp[eG,cn.enc,rI,<-cw,Y5]
def cn.enc_fr(x:cn):ia (cn.enc .own x):=⟨trivial,trivial,⟨.inl λh=>(by cases h),bf _ _ λy _=>oy y⟩,trivial,trivial,trivial⟩
def cn.wf(x:cn):Prop:=bY.wf x.W/\nq x.b1/\nq x.a
def cn.sml(x:cn):Prop:=bY.sml x.W
structure ab where
 G:af
 q:List aA
 K:List ax
 M:List aB
 O:List bt
 T:List aE
 y:aK
 a9:bL
 c0:Int
 b3:Int
 c3:Int
 a:Int
 o:Bool
 Y:cn
deriving DecidableEq,Inhabited
def ab.enc(o:dY)(x:ab):List C:=[.s o (x.G.F.V.S.map (aD o)),.s o (x.G.F.V.a3.map (rB o)),.s o (x.G.F.Q.J.map (bh.enc o)),I x.G.Calls,.s o (x.G.w.map (rI o)),.s o (x.q.map (aA.enc o)),.s o (x.K.map (ax.enc o)),.s o (x.M.map (aB.enc o)),.s o (x.O.map (bt.enc o)),.s o (x.T.map (aE.enc o)),.s o (x.y.U.map (cN o)),.s o (x.y.a1.map (aD o)),I x.a9.c1,.s o (x.a9.a6.map (aQ.enc o)),I x.c0,I x.b3,I x.c3,I x.a,B x.o,I x.Y.W.a2,I x.Y.W.a0,.s o (x.Y.W.S.map (rI o)),I x.Y.b1,I x.Y.a]
def ab.enc_fz(x:ab):eG (ab.enc .own x)=ab.enc .X x:=by simp[eG,ab.enc,aE.enc_fz,bh.enc_fz,aB.enc_fz,bt.enc_fz,aA.enc_fz,ax.enc_fz,aQ.enc_fz,rB,rx,rI,eg,<-cw,Y5]
def ab.enc_fr(x:ab):ia (ab.enc .own x):=⟨⟨.inl λh=>(by cases h),bf _ _ λy _=>bH y⟩,⟨.inl λh=>(by cases h),bf _ _ λy _=>FO y⟩,⟨.inl λh=>(by cases h),bf _ _ λy _=>bh.enc_fr y⟩,trivial,⟨.inl λh=>(by cases h),bf _ _ λy _=>oy y⟩,⟨.inl λh=>(by cases h),bf _ _ λy _=>aA.enc_fr y⟩,⟨.inl λh=>(by cases h),bf _ _ λy _=>ax.enc_fr y⟩,⟨.inl λh=>(by cases h),bf _ _ λy _=>aB.enc_fr y⟩,⟨.inl λh=>(by cases h),bf _ _ λy _=>bt.enc_fr y⟩,⟨.inl λh=>(by cases h),bf _ _ λy _=>aE.enc_fr y⟩,⟨.inl λh=>(by cases h),bf _ _ λy _=>rr y⟩,⟨.inl λh=>(by cases h),bf _ _ λy _=>bH y⟩,trivial,⟨.inl λh=>(by cases h),bf _ _ λy _=>aQ.enc_fr y⟩,trivial,trivial,trivial,trivial,trivial,trivial,trivial,⟨.inl λh=>(by cases h),bf _ _ λy _=>oy y⟩,trivial,trivial,trivial⟩
def ab.wf(x:ab):Prop:=af.wf x.G/\LF x.q/\Mc x.K/\Lg x.M/\Qy x.O/\K5 x.T/\aK.wf x.y/\bL.wf x.a9/\nq x.c0/\nq x.b3/\nq x.c3/\nq x.a/\TW x.o/\cn.wf x.Y
def ab.sml(x:ab):Prop:=af.sml x.G/\iH x.q/\dS x.K/\dQ x.M/\M9 x.O/\GX x.T/\aK.sml x.y/\bL.sml x.a9/\cn.sml x.Y
structure jN where
 b6:Int
 c4:Int
 c8:Int
 c5:Int
deriving DecidableEq,Inhabited
def jN.enc(o:dY)(x:jN):List C:=[I x.b6,I x.c4,I x.c8,I x.c5]
def jN.enc_fr(x:jN):ia (jN.enc .own x):=⟨trivial,trivial,trivial,trivial,trivial⟩
structure TS where
 Id:Int
 u:Int
 Sum:Int
deriving DecidableEq,Inhabited
structure bD where
 Id:Int
 S:List Int
deriving DecidableEq,Inhabited
def bD.enc(o:dY)(x:bD):List C:=[I x.Id,.s o (x.S.map (rI o))]
def bD.enc_fz(x:bD):eG (bD.enc .own x)=bD.enc .X x:=by simp[eG,bD.enc,rI,<-cw,Y5]
def bD.enc_fr(x:bD):ia (bD.enc .own x):=⟨trivial,⟨.inl λh=>(by cases h),bf _ _ λy _=>oy y⟩,trivial⟩
def bD.sml(x:bD):Prop:=sN x.S
def E0(x:List bD):Prop:=x.length<=1048576/\∀y∈x,bD.sml y
structure a7 where
 a:Int
 O:List bD
deriving DecidableEq,Inhabited
def a7.enc(o:dY)(x:a7):List C:=[I x.a,.s o (x.O.map (bD.enc o))]
def a7.enc_fz(x:a7):eG (a7.enc .own x)=a7.enc .X x:=by simp[eG,a7.enc,bD.enc_fz,<-cw,Y5]
def Cc:type_of% @a7.enc_fz:=@a7.enc_fz
def a7.enc_fr(x:a7):ia (a7.enc .own x):=⟨trivial,⟨.inl λh=>(by cases h),bf _ _ λy _=>bD.enc_fr y⟩,trivial⟩
def a7.sml(x:a7):Prop:=E0 x.O
structure bp where
 Z:ab
 b5:a7
deriving DecidableEq,Inhabited
def bp.enc(o:dY)(x:bp):List C:=[.s o (x.Z.G.F.V.S.map (aD o)),.s o (x.Z.G.F.V.a3.map (rB o)),.s o (x.Z.G.F.Q.J.map (bh.enc o)),I x.Z.G.Calls,.s o (x.Z.G.w.map (rI o)),.s o (x.Z.q.map (aA.enc o)),.s o (x.Z.K.map (ax.enc o)),.s o (x.Z.M.map (aB.enc o)),.s o (x.Z.O.map (bt.enc o)),.s o (x.Z.T.map (aE.enc o)),.s o (x.Z.y.U.map (cN o)),.s o (x.Z.y.a1.map (aD o)),I x.Z.a9.c1,.s o (x.Z.a9.a6.map (aQ.enc o)),I x.Z.c0,I x.Z.b3,I x.Z.c3,I x.Z.a,B x.Z.o,I x.Z.Y.W.a2,I x.Z.Y.W.a0,.s o (x.Z.Y.W.S.map (rI o)),I x.Z.Y.b1,I x.Z.Y.a,I x.b5.a,.s o (x.b5.O.map (bD.enc o))]
def bp.enc_fr(x:bp):ia (bp.enc .own x):=⟨⟨.inl λh=>(by cases h),bf _ _ λy _=>bH y⟩,⟨.inl λh=>(by cases h),bf _ _ λy _=>FO y⟩,⟨.inl λh=>(by cases h),bf _ _ λy _=>bh.enc_fr y⟩,trivial,⟨.inl λh=>(by cases h),bf _ _ λy _=>oy y⟩,⟨.inl λh=>(by cases h),bf _ _ λy _=>aA.enc_fr y⟩,⟨.inl λh=>(by cases h),bf _ _ λy _=>ax.enc_fr y⟩,⟨.inl λh=>(by cases h),bf _ _ λy _=>aB.enc_fr y⟩,⟨.inl λh=>(by cases h),bf _ _ λy _=>bt.enc_fr y⟩,⟨.inl λh=>(by cases h),bf _ _ λy _=>aE.enc_fr y⟩,⟨.inl λh=>(by cases h),bf _ _ λy _=>rr y⟩,⟨.inl λh=>(by cases h),bf _ _ λy _=>bH y⟩,trivial,⟨.inl λh=>(by cases h),bf _ _ λy _=>aQ.enc_fr y⟩,trivial,trivial,trivial,trivial,trivial,trivial,trivial,⟨.inl λh=>(by cases h),bf _ _ λy _=>oy y⟩,trivial,trivial,trivial,⟨.inl λh=>(by cases h),bf _ _ λy _=>bD.enc_fr y⟩,trivial⟩
structure Tg where
 a4:Int
 Mapped:Int
 V:Int
 Held:Int
 mV:Int
 Cached:Int
 c6:Int
 Posted:Int
deriving DecidableEq,Inhabited
def Lm{α β:Type}{f:α->β}{l:List α}{K:Nat->Prop}(h:K l.length):Ln (l.map f).length K:=Ln.mk (C1 ..) h
def Wm{z:Int}{K:Int->Prop}(h : -9223372036854775808<=z/\z<=9223372036854775807)(a:K z):Wr .i64 z K:=CN (eP h.1 h.2) a
def dT{p:Prop}[Decidable p]{X Y:Prop}(h:p)(a:p->X):Bf (decide p) X Y:=.D a λe=>absurd h e
def dF{p:Prop}[Decidable p]{X Y:Prop}(h:¬p)(a:¬p->Y):Bf (decide p) X Y:=.D (λe=>absurd e h) a
def nT{a b:Int}{X Y:Prop}(h:a≠b)(c:a≠b->X):Bf (a != b) X Y:=.N c λe=>absurd e h
def nF{a b:Int}{X Y:Prop}(h:a=b)(c:a=b->Y):Bf (a != b) X Y:=.N (λe=>absurd h e) c
def eT{a b:Int}{X Y:Prop}(h:a=b)(c:a=b->X):Bf (a == b) X Y:=.E c λe=>absurd h e
def eF{a b:Int}{X Y:Prop}(h:a≠b)(c:a≠b->Y):Bf (a == b) X Y:=.E (λe=>absurd e h) c
def Bn{b:Bool}{X Y:Prop}(h:Bf b Y X):Bf (!b) X Y:=.not h
def Bt{X Y:Prop}(h:X):Bf true X Y:=.t rfl h
def Bu{X Y:Prop}(h:Y):Bf false X Y:=.f rfl h
def Fm{k b:Kd}{cs a:List C}(h1:k=b)(h:cs=a):jG k b cs a:=.mk h1 h
def dV{p:Prop}[Decidable p]{X Y:Prop}(h:p)(a:X):Bf (decide p) X Y:=.D (λ_=>a) λe=>absurd h e
def dW{p:Prop}[Decidable p]{X Y:Prop}(h:¬p)(a:Y):Bf (decide p) X Y:=.D (λe=>absurd e h) λ_=>a
def nV{a b:Int}{X Y:Prop}(h:a≠b)(c:X):Bf (a != b) X Y:=.N (λ_=>c) λe=>absurd e h
def nW{a b:Int}{X Y:Prop}(h:a=b)(c:Y):Bf (a != b) X Y:=.N (λe=>absurd h e) λ_=>c
def eV{a b:Int}{X Y:Prop}(h:a=b)(c:X):Bf (a == b) X Y:=.E (λ_=>c) λe=>absurd h e
def eW{a b:Int}{X Y:Prop}(h:a≠b)(c:Y):Bf (a == b) X Y:=.E (λe=>absurd e h) λ_=>c
structure K3(Y:Prop):Prop where
 out:Y
def gO{X Y:Prop}(y:Y)(h:K3 Y->X:=by intro y;(conv=>whnf);(first|with_reducible (first|refine Lm ?_|refine Wm ω ?_|refine Bn ?_|refine Fm rfl ?_)|refine Bt ?_|refine Bu ?_|fail);exact y.out):X:=h ⟨y⟩
def gP{X Y:Prop}(y:Y)(h:K3 Y->X:=by intro y;(conv=>whnf);(first|with_reducible (first|refine Lm ?_|refine Wm ω ?_|refine Bn ?_|refine Fm rfl ?_)|refine Bt ?_|refine Bu ?_|refine C8 (by assumption) ?_|refine CD (aa (by assumption)) ?_|refine CJ rfl (aa (by assumption)) rfl ?_|refine CC ?_|fail);exact y.out):X:=h ⟨y⟩
def gD{X Y:Prop}(y:Y)(h:K3 Y->X:=by intro y;(conv=>whnf);(first|with_reducible (first|refine Lm ?_|refine Wm ω ?_|refine dV ω ?_|refine dW ω ?_|refine Bn ?_|refine Fm rfl ?_)|refine Bt ?_|refine Bu ?_|fail);exact y.out):X:=h ⟨y⟩
def gE{X Y:Prop}(y:Y)(h:K3 Y->X:=by intro y;(conv=>whnf);(first|with_reducible (first|refine Lm ?_|refine Wm ω ?_|refine dV ω ?_|refine dW ω ?_|refine Bn ?_|refine Fm rfl ?_)|refine Bt ?_|refine Bu ?_|refine C8 (by assumption) ?_|refine CD (aa (by assumption)) ?_|refine CJ rfl (aa (by assumption)) rfl ?_|refine CC ?_|fail);exact y.out):X:=h ⟨y⟩
def gA{X Y:Prop}(y:Y)(h:K3 Y->X:=by intro y;(conv=>whnf);(first|with_reducible (first|refine Lm ?_|refine Wm ω ?_|refine dV ω ?_|refine dW ω ?_|refine nV ω ?_|refine nW ω ?_|refine eV ω ?_|refine eW ω ?_|refine Bn ?_|refine Fm rfl ?_)|refine Bt ?_|refine Bu ?_|fail);exact y.out):X:=h ⟨y⟩
def gB{X Y:Prop}(y:Y)(h:K3 Y->X:=by intro y;(conv=>whnf);(first|with_reducible (first|refine Lm ?_|refine Wm ω ?_|refine dV ω ?_|refine dW ω ?_|refine nV ω ?_|refine nW ω ?_|refine eV ω ?_|refine eW ω ?_|refine Bn ?_|refine Fm rfl ?_)|refine Bt ?_|refine Bu ?_|refine C8 (by assumption) ?_|refine CD (aa (by assumption)) ?_|refine CJ rfl (aa (by assumption)) rfl ?_|refine CC ?_|fail);exact y.out):X:=h ⟨y⟩
def Tc{z1 z2:Int}(h:z1=z2):Qu (I z1) (I z2):=by subst h;rfl
def TD(c:C):Qu c c:=(mP [c]).1
def wA{X:Prop}(h:X:=by repeat'(first|exact trivial|rfl|refine CL ?_ ?_)):X:=h
def wB{X:Prop}(h:X:=by repeat'(first|exact trivial|rfl|refine CL ?_ ?_|(exact Tc (by first|omega|(simp only;omega)|(simp;omega))))):X:=h
def wC{X:Prop}(h:X:=by repeat'(first|exact trivial|rfl|exact TD _|refine CL ?_ ?_|(exact Tc (by first|omega|(simp only;omega)|(simp;omega))))):X:=h
def fO(n : Nat){f : Nat}{a : Func}{c : Code}{sh : Bool}{A : List RA}{k : Kd}{rcs : List C}(tb : List (Nat × Nat × List Nat))(d : Tryz.prog.funcs[f]? = some a)(e : a.body = some c)(g : aw Tryz.prog TE ⟨n, [], []⟩ (DF Tryz.prog TE ⟨n, [], []⟩ tb) c (QF TE a.results.toList k rcs) (lay (wa 0 A)))(b : sh = true \/ ia rcs := by exact .inr ⟨trivial, trivial⟩)(h : (a.name == "runtime.NumGoroutine") = false := by kernel_rfl)(i : fU (mJ tb) c = true := by kernel_rfl)(j : A.length + (a.ntmps - A.length) = n := by rfl) : ar Tryz.prog f sh A k rcs := Tv d h e i j b g
def fP(n : Nat){f : Nat}{a : Func}{c : Code}{sh : Bool}{A : List RA}{k : Kd}{rcs : List C}(mo : List (Nat × List Nat))(tb : List (Nat × Nat × List Nat))(d : Tryz.prog.funcs[f]? = some a)(e : a.body = some c)(g : aw Tryz.prog TE ⟨n, [], mo⟩ (DF Tryz.prog TE ⟨n, [], mo⟩ tb) c (QF TE a.results.toList k rcs) (lay (wa 0 A)))(b : sh = true \/ ia rcs := by exact .inr ⟨trivial, trivial⟩)(h : (a.name == "runtime.NumGoroutine") = false := by kernel_rfl)(i : fU (mJ tb) c = true := by kernel_rfl)(j : A.length + (a.ntmps - A.length) = n := by rfl) : ar Tryz.prog f sh A k rcs := Tv d h e i j b g
def fM(n : Nat){f : Nat}{a : Func}{c : Code}{sh : Bool}{A B : List MA}{k : Kd}{rcs : List C}(mo : List (Nat × List Nat))(tb : List (Nat × Nat × List Nat))(b : List (Nat × Nat))(g : Tryz.prog.funcs[f]? = some a)(h : a.body = some c)(i : ∀(u : Nat -> Nat -> Value)(p : Nat -> Value), aw Tryz.prog TE ⟨n, JA p 0 A, mo⟩ (DF Tryz.prog TE ⟨n, JA p 0 A, mo⟩ tb) c (Rs TE a.results.toList k rcs u A B b) (lay (yo u 0 A)))(d : sh = true \/ ia rcs := by exact .inr ⟨trivial, trivial⟩)(j : (a.name == "runtime.NumGoroutine") = false := by kernel_rfl)(l : fU (mJ tb) c = true := by kernel_rfl)(o : A.length + (a.ntmps - A.length) = n := by rfl)(e : Ht (EW 0 A b) = true := by rfl) : aT Tryz.prog f sh A B k rcs := Tp b g j h l o e d i
section
variable{α:Type}{l:List α}{p:α->Bool}{i:Nat}{x:α}
def cW(h:l[i]? = some x)(a:(l.take i).all p=true)(b:p x=true):(l.take (i+1)).all p=true:=by
 rw[V5,h,List.all_append,a];simp[b]
def fo(h:l[i]? = some x)(a:p x=false):l.all p=false:=by
 rw[List.all_eq_false];exact⟨x,Z1 h,by simp[a]⟩
def im(a:l.length<=i)(b:(l.take i).all p=true):l.all p=true:=by
 rwa [I7 a]at b
end
def wD{α β:Type}{a:List α}{b:List β}{i:Nat}{x:α}{y:β}(h1:a[i]? = some x)(c:b[i]? = some y):(a.zip b)[i]? = some (x,y):=by
 rw[List.getElem?_zip_eq_some];exact⟨h1,c⟩
def nth{α:Type}[Inhabited α](xs:List α)(i:Nat):α:=xs.getD i default
def ao{α:Type}[Inhabited α]{xs:List α}{i:Nat}(h:i<xs.length):xs[i]? = some (nth xs i):=by
 unfold nth;rw[W2,I2 h];rfl
def bm{α:Type}[Inhabited α]{xs:List α}{i:Nat}{y:α}(h:xs[i]? = some y):nth xs i=y:=by
 unfold nth;rw[W2,h];rfl
def am{α:Type}[Inhabited α]{xs:List α}{i:Nat}(h:i<xs.length):nth xs i∈xs:=Z1 (ao h)
def df(n:Nat)(p:Nat->Bool):Bool:=(List.range n).all p
def cA{n:Nat}{p:Nat->Bool} : df n p=true↔∀j,j<n->p j=true:=by
 unfold df;simp
def bU{n:Nat}{p:Nat->Bool}(h:df n p=true)(a:p n=true):df (n+1) p=true:=by
 rw[cA]at *;grind
def cB{n i:Nat}{p:Nat->Bool}(a:i<n)(b:p i=false):df n p=false:=by
 by_cases h:df n p=true
 ·rw[cA]at h;grind
 simpa using h
def dZ{n i:Nat}{p:Nat->Bool}(h:df n p=true)(a:i<n):p i=true:=cA.1 h i a
def iT(u:Bool)(v:Int):Bool:=decide (0<=v/\v<=999)&&(u || decide (v=0))
def gY(r:List Int)(u:Bool):Bool:=decide (r.length=16)&&r.all (iT u)
def cZ(f:aV):Bool:=decide (1<=f.S.length/\f.S.length<=32)&&(decide (f.a3.length=f.S.length)&&(f.S.zip f.a3).all λq=>gY q.1 q.2)
def iS{f:aV}{i:Nat}{r:List Int}{u:Bool}(h1:f.S[i]? = some r)(a:f.a3[i]? = some u)(b:gY r u=false):cZ f=false:=by
 unfold cZ;rw[fo (p:=λq=>gY q.1 q.2) (wD h1 a) b];simp
def su{r:List Int}{u:Bool}{k:Nat}{v:Int}(h1:r[k]? = some v)(a:iT u v=false):gY r u=false:=by
 unfold gY;rw[fo h1 a];simp
def DJ{f:aV}(h:cZ f=true):1<=f.S.length/\f.S.length<=32/\f.a3.length=f.S.length:=by
 unfold cZ at h;simp only[I0,C0]at h;exact⟨h.1.1,h.1.2,h.2.1⟩
def kH(a:Int)(e:bh):Bool:=decide (0<=e.j/\e.j<=2/\(e.j=0->e.e=0)/\(e.j≠0->0<=e.e/\e.e<a))
def gH(t:aG)(a:Int):Bool:=df t.J.length (λi=>kH a (nth t.J i))&&decide (1<=t.J.length/\t.J.length<=32)
def LM(t:aG)(f:Int)(i:Nat):Bool:=decide ((nth t.J i).j≠0/\(nth t.J i).e=f)
def kh(t:aG)(f:Int)(n:Nat):List Int:=((List.range n).filter (LM t f)).map λ(i:Nat)=>(i:Int)
def pagesOn(t:aG)(f:Int):List Int:=kh t f t.J.length
def B7{t:aG}{f:Int}{n:Nat}(h:LM t f n=true):kh t f (n+1)=kh t f n++[(n:Int)]:=by
 unfold kh;rw[List.range_succ,List.filter_append,X5];simp[h]
def EV{t:aG}{f:Int}{n:Nat}(h:LM t f n=false):kh t f (n+1)=kh t f n:=by
 unfold kh;rw[List.range_succ,List.filter_append,X5];simp[h]
def tS(t:aG)(f:Int)(n:Nat):(kh t f n).length<=n:=by
 unfold kh;rw[C1];exact Z4 (List.length_filter_le ..) (by simp)
def ac(t:aG)(p:Int):bh:=if 0<=p/\p<t.J.length then nth t.J p.toNat else⟨0,0⟩
def pw(m:aR)(i:Nat):Bool:=nth m.V.a3 i == decide (0<(pagesOn m.Q (i:Int)).length)
def dn(m:aR):Bool:=(cZ m.V&&gH m.Q m.V.a3.length)&&df m.V.a3.length (pw m)
def ay(k:af):Bool:=(df k.w.length (λi=>decide (0<=nth k.w i))&&dn k.F)&&decide (0<=k.Calls/\k.Calls<=100000/\k.w.length<=40)
def rangeIn(pages:Int)(r:aA):Bool:=decide (1<=r.b0/\r.b0<=pages/\0<=r.At/\r.At<=pages - r.b0)
def gK(pages:Int)(xs:List aA)(i:Nat):Bool:=rangeIn pages (nth xs i)&&decide (i=0\/(nth xs (i - 1)).At+(nth xs (i - 1)).b0<(nth xs i).At)
def bC(pages:Int)(xs:List aA):Bool:=df xs.length (gK pages xs)&&decide (1<=pages/\pages<=32)
def rn(page:Int)(r:aA):Bool:=decide (r.At<=page)&&decide (page<IntKind.i64.wrap (r.At+r.b0))
def lim(k:Int):Int:=if k=0 then 65535 else if k=1 then 255 else if k=2 then 15 else if k=3 then 3 else 0
def slots(k:Int):Int:=if k=0 then 16 else if k=1 then 8 else if k=2 then 4 else if k=3 then 2 else 0
def bg(s:ax):Bool:=decide (0<=s.R/\s.R<=31/\0<=s.d/\s.d<=3/\0<=s.b2/\s.b2<=lim s.d)
def fN(n:Int):Int:=if 9<=n/\n<=1000 then(n+15) / 16 else 0
def bJ(l:aB):Bool:=decide (9<=l.u/\l.u<=1000/\l.a4=(l.u+15) / 16/\0<=l.R/\l.R<=32 - l.a4)
def lpgs(l:aB)(n:Nat):List Int:=(List.range n).map λ(i:Nat)=>l.R+i
def pgs(sp:List ax)(la:List aB):List Int:=sp.map (·.R)++la.flatMap λl=>lpgs l l.a4.toNat
def bo(sp:List ax)(la:List aB):Bool:=(sp.all bg&&la.all bJ)&&decide (pgs sp la).Nodup
def cy(s:ax)(a:Int):Bool:=bg s&&decide (16*s.R<=a/\a<=16*s.R+15)
def aU(b i:Int):Bool:=decide (0<=b/\0<=i/\i<=15/\b / 2 ^ i.toNat % 2=1)
def bq(l:aB)(a:Int):Bool:=bJ l&&decide (16*l.R<=a/\a<=16*l.R+l.u - 1)
def csz(k:Int):Int:=if 0<=k/\k<=3 then 2 ^ k.toNat else 0
def jf(s:ax)(a:Int):Int × Int:=if cy s a then((a - 16*s.R) / csz s.d,(a - 16*s.R) % csz s.d) else(-1,-1)
def oJ(i:Nat)(s:ax)(a:Int):jN:=⟨if aU s.b2 ((a - 16*s.R) / csz s.d) then 1 else 2,i,(a - 16*s.R) / csz s.d,(a - 16*s.R) % csz s.d⟩
def denotes(sp:List ax)(la:List aB)(a:Int):jN:=
 match sp.findIdx? (cy · a) with
 | some i=>oJ i (nth sp i) a
 | none=>match la.findIdx? (bq · a) with
  | some i=>⟨3,i,0,a - 16*(nth la i).R⟩
  | none=>⟨0,0,0,0⟩
def w5{α:Type}{pr:α->Bool}{xs:List α}{i:Nat}{y:α}(a:xs[i]? = some y)(b:pr y=true)(c:∀(j:Nat)(z:α),j<i->xs[j]? = some z->pr z=false):xs.findIdx? pr=some i:=by
 obtain⟨d,rfl⟩:=O2.1 a;exact C7.2 ⟨d,b,λj e=>by
   have:=c j _ e (I2 ω);simp[this]⟩
def yx{α:Type}{pr:α->Bool}{xs:List α}{i:Nat}(d:xs.length<=i)(b:∀(j:Nat)(z:α),j<i->xs[j]? = some z->pr z=false):xs.findIdx? pr=none:=
 List.findIdx?_eq_none_iff.2 λz c=>by
  obtain⟨j,a⟩:=List.mem_iff_getElem?.1 c;exact b j z (by have:=(O2.1 a).1;omega) a
def dz{α:Type}{pr:α->Bool}{xs:List α}{i:Nat}{y:α}(c:xs[i]? = some y)(d:pr y=false)(e:∀(j:Nat)(z:α),j<i->xs[j]? = some z->pr z=false):∀(j:Nat)(z:α),j<i+1->xs[j]? = some z->pr z=false:=by
 intro j z f a;rcases Nat.lt_or_ge j i with b|b
 ·exact e j z b a
 obtain rfl:j=i:=ω
 rw[c]at a;cases a;exact d
def dH{α:Type}(pr:α->Bool)(xs:List α):Int:=match xs.findIdx? pr with|some i=>(i:Nat)|none=>-1
def dI{α:Type}{pr:α->Bool}{xs:List α}{i:Nat}{y:α}(a:xs[i]? = some y)(b:pr y=true)(c:∀(j:Nat)(z:α),j<i->xs[j]? = some z->pr z=false):dH pr xs=(i:Nat):=by
 unfold dH;rw[w5 a b c]
def gv{α:Type}{pr:α->Bool}{xs:List α}{i:Nat}(a:xs.length<=i)(b:∀(j:Nat)(z:α),j<i->xs[j]? = some z->pr z=false):dH pr xs = -1:=by
 unfold dH;rw[yx a b]
def jC{α:Type}(pr:α->Bool)(xs:List α):decide (dH pr xs≥0)=xs.any pr:=by
 unfold dH;cases h:xs.findIdx? pr with
 | none=>
  have:=List.findIdx?_eq_none_iff.1 h;have a:xs.any pr=false:=by rw[List.any_eq_false];intro y b;simp[this y b]
  rw[a];rfl
 | some i=>
  obtain⟨c,d,-⟩:=C7.1 h;have a:xs.any pr=true:=t4.2 ⟨_,List.getElem_mem c,d⟩;rw[a];simp
def meshable(s t:ax):Bool:=(bg s&&bg t)&&decide (s.d=t.d/\s.R≠t.R/\s.b2.toNat &&& t.b2.toNat=0)
def nR(n:Int)(p:dx):Bool:=decide (0<=p.To/\p.To<=n - 1/\0<=p.Addr)
def PR(z:Int):Bool:=decide (0<=z)
def hC(m:aK)(i:Nat):Bool:=(nth m.U i).all (nR m.U.length)&&(nth m.a1 i).all PR
def bx(m:aK):Nat->Int
 | 0=>0
 | i+1=>bx m i+((nth m.U i).length+(nth m.a1 i).length)
def bO(m:aK):Bool:=(decide (1<=m.U.length/\m.U.length<=4/\m.a1.length=m.U.length)&&df m.U.length (hC m))&&decide (bx m m.U.length<=30)
def aN(m:aK):List Int:=if bO m then(m.U.flatMap λl=>l.map (·.Addr))++m.a1.flatten else []
def eU(a:Int)(y:aQ):Bool:=decide (y.Addr=a)
def kL(xs:List aQ)(i:Nat):Bool:=decide (0<=(nth xs i).d/\(nth xs i).d<=3/\0<=(nth xs i).Addr/\0<=(nth xs i).b7/\(i=0\/(nth xs (i - 1)).b7<=(nth xs i).b7))&&!(xs.take i).any (eU (nth xs i).Addr)
def quarCells(xs:List aQ):Nat->Int
 | 0=>0
 | i+1=>quarCells xs i+csz (nth xs i).d
def gC(q:bL):Bool:=df q.a6.length (kL q.a6)&&decide (0<=q.c1/\q.c1<=500/\quarCells q.a6 q.a6.length<=q.c1)
def mF(xs:List Int)(i:Nat):Bool:=decide (0<=nth xs i/\nth xs i<=15/\(i=0\/nth xs (i - 1)<nth xs i))
def eO(p:bY):Bool:=df p.S.length (mF p.S)&&decide (0<=p.a2/\p.a2<=31/\0<=p.a0/\p.a0<=31/\p.a2≠p.a0)
def j9(j:cn):Bool:=eO j.W&&decide (0<=j.b1/\j.b1<=5/\0<=j.a/\j.a<=j.W.S.length)
def qI(j:cn):Bool:=decide (j.W.a2=0/\j.W.a0=0/\j.W.S.length=0/\j.b1=0/\j.a=0)
def aX(h:ab)(p:Int):List Int:=if(ac h.G.F.Q p).j=0 then [] else pagesOn h.G.F.Q (ac h.G.F.Q p).e
def kB(p:Int)(s:ax):Bool:=decide (s.R=p)
def gQ(h:ab)(p:Int):Int:=dH (kB p) h.K
def aJ(n:Int):Int:=if n<1 then -1 else if n<=1 then 0 else if n<=2 then 1 else if n<=4 then 2 else if n<=8 then 3 else -1
set_option maxRecDepth 20000
set_option maxHeartbeats 2000000
def aH(n lo a:Int):ar Tryz.prog 144 false [.val none [I n],.val none [I lo],.val none [I a]] .one [B (decide (lo<=n/\n<=a))]:=by
 refine fO 15 [] Tryz.func144 rfl ?_
 repeat'(first|refine gP ?_|(conv=>whnf);with_reducible refine Bf.D (λb=>?_) (λb=>?_))
 all_goals exact X0 (λz=>[B z]) (by simp;try omega)
def aM(n lo a:Int):ar Tryz.prog 60 false [.val none [I n],.val none [I lo],.val none [I a]] .one [B (decide (lo<=n/\n<=a))]:=by
 refine fO 15 [] Tryz.func60 rfl ?_
 repeat'(first|refine gP ?_|(conv=>whnf);with_reducible refine Bf.D (λb=>?_) (λb=>?_))
 all_goals exact X0 (λz=>[B z]) (by simp;try omega)
def gi(k:Int):ar Tryz.prog 246 false [.val none [I k]] .one [B (decide (0<=k/\k<=3))]:=by
 refine fO 5 [] Tryz.func246 rfl ?_
 repeat'(first|refine gP ?_|(conv=>whnf);refine C8 (aM k 0 3) ?_)
 rfl
def ee(k:Int):ar Tryz.prog 94 false [.val none [I k]] .one [I (csz k)]:=by
 by_cases b:0<=k/\k<=3
 ·obtain rfl|rfl|rfl|rfl:k=0\/k=1\/k=2\/k=3:=ω
  all_goals
   refine fO 8 [] Tryz.func94 rfl ?_
   repeat'(first|refine gE ?_|(conv=>whnf);first|refine C8 (gi _) ?_|refine CO (by decide) ?_|refine CN rfl ?_)
   exact X0 (λz=>[I z]) (by decide)
 refine fO 8 [] Tryz.func94 rfl ?_
 repeat'(first|refine gE ?_|(conv=>whnf);refine C8 (gi _) ?_)
 exact X0 (λz=>[I z]) (by unfold csz;rw[C9 b])
def ef(k:Int):ar Tryz.prog 375 false [.val none [I k]] .one [I (csz k)]:=by
 by_cases b:0<=k/\k<=3
 ·obtain rfl|rfl|rfl|rfl:k=0\/k=1\/k=2\/k=3:=ω
  all_goals
   refine fO 9 [] Tryz.func375 rfl ?_
   repeat'(first|refine gE ?_|(conv=>whnf);first|refine C8 (aH _ 0 3) ?_|refine CO (by decide) ?_|refine CN rfl ?_)
   exact X0 (λz=>[I z]) (by decide)
 refine fO 9 [] Tryz.func375 rfl ?_
 repeat'(first|refine gE ?_|(conv=>whnf);refine C8 (aH _ 0 3) ?_)
 exact X0 (λz=>[I z]) (by unfold csz;rw[C9 b])
def mT(xs:List Int)(a:Int)(j:xs.length<=9223372036854775807):ar Tryz.prog 367 false [.val none (aD .X xs),.val none [I a]] .one [B (decide (a∈xs))]:=by
 refine fO 18 [] Tryz.func367 rfl ?_
 repeat'(first|refine gP ?_|fail)
 (conv=>whnf)
 refine CF (ι:=Nat) (λi=>[(0,.H .one (aD .X xs)),(1,.H .one [I a]),(5,.H .one [I (i:Nat)])]) (λi=>i<=xs.length/\a∉xs.take i) (λi=>xs.length - i) 0 ?_ ⟨W0 _,by simp⟩ λi g=>?_
 ·exact wB
 obtain⟨g,b⟩:=g;by_cases c:i<xs.length
 ·obtain⟨y,d⟩ : ∃y,xs[i]? = some y:=⟨_,I2 c⟩
  repeat'(first|refine gE ?_|(conv=>whnf);with_reducible refine Bf.E (λh=>?_) (λh=>?_))
  ·exact X0 (λz=>[B z]) (by symm;simp;rw[<-‹y=a›];exact Z1 d)
  (conv=>whnf)
  refine CE (i+1) ⟨ω,?_⟩ ω ?_
  ·rw[V5,d]
   simp only[Option.toList_some,z3,O1,not_or];exact⟨b,λe=>‹y≠a› e.symm⟩
  exact wB
 repeat'(first|refine gE ?_|fail)
 rw[I7 ω]at b;exact X0 (λz=>[B z]) (by symm;simpa using b)
set_option maxHeartbeats 4000000
def good(k:Int)(s:List Int)(a:Int):Prop:=0<=a/\a<=511/\a.tmod (csz k)=0/\a∉s
instance (k:Int) (s:List Int) (a:Int):Decidable (good k s a):=by unfold good;exact inferInstance
def rY(k:Int):List Int->List Int->Option (List Int)
 | s,[]=>some s
 | s,a::l=>if good k s a then rY k (s++[a]) l else none
def fm(k:Nat)(s l:List Int):Option (List Int):=if l.length<=8/\k<=3 then rY k s l else none
def gL:Nat->List Int->List (List Int)->Option (List Int)
 | _,s,[]=>some s
 | k,s,l::ls=>(fm k s l).bind λa=>gL (k+1) a ls
def bA(c:aE):Bool:=decide (c.b.length=4)&&(gL 0 [] c.b).isSome
def rm(k:Int):∀(a s b:List Int),rY k s (a++b)=(rY k s a).bind λc=>rY k c b
 | [],s,b=>rfl
 | x::a,s,b=>by
  simp only[List.cons_append,rY];split
  ·exact rm k a _ b
  rfl
def pu:∀(a:List (List Int))(k:Nat)(s:List Int)(b:List (List Int)),gL k s (a++b)=(gL k s a).bind λc=>gL (k+a.length) c b
 | [],k,s,b=>rfl
 | l::a,k,s,b=>by
  simp only[List.cons_append,gL,Option.bind_assoc,List.length_cons]
  congr 1;funext c
  rw[pu a (k+1) c b,show k+1+a.length=k+(a.length+1) by omega]
def J3{k:Int}{l b s:List Int}{j:Nat}{a:Int}(c:l[j]? = some a)(h:rY k b (l.take j)=some s)(d:good k s a):rY k b (l.take (j+1))=some (s++[a]):=by
 rw[V5,c,Option.toList_some,rm,h];simp[rY,d]
def Mx{k:Nat}{l c s:List Int}{j:Nat}{a:Int}(d:l[j]? = some a)(h:rY k c (l.take j)=some s)(e:¬good k s a):fm k c l=none:=by
 unfold fm;split
 ·have:l=l.take j++(a::l.drop (j+1)):=by
   obtain⟨b,rfl⟩:=O2.1 d;rw[<-List.drop_eq_getElem_cons b,List.take_append_drop]
  rw[this,rm,h];simp[rY,e]
 rfl
def Dn{k:Int} : ∀{l s b:List Int},rY k s l=some b->b.length=s.length+l.length
 | [],s,b,h=>by simp only[rY,Z0]at h;subst h;simp
 | a::l,s,b,h=>by
  simp only[rY]at h;split at h
  ·have:=Dn h;simp at this |-;omega
  cases h
def uV{a:List (List Int)}{i:Nat}{l s:List Int}(b:a[i]? = some l)(h:gL 0 [] (a.take i)=some s):gL 0 [] (a.take (i+1))=fm i s l:=by
 have c:=(O2.1 b).1;rw[V5,b,Option.toList_some,pu,h];simp only[Option.bind_some,gL,Z6,V1,Nat.min_eq_left (Nat.le_of_lt c)];cases fm i s l<;>rfl
def l9{c:aE}{i:Nat}{l s:List Int}(b:c.b[i]? = some l)(h:gL 0 [] (c.b.take i)=some s)(d:fm i s l=none):bA c=false:=by
 have a:=uV b h;rw[d]at a;have e:gL 0 [] c.b=none:=by
  rw[<-List.take_append_drop (i+1) c.b,pu,a];rfl
 unfold bA;rw[e];simp
def FX:∀{b:List (List Int)}{k:Nat}{s a:List Int},gL k s b=some a->a.length<=s.length+8*b.length
 | [],k,s,a,h=>by simp only[gL,Z0]at h;subst h;simp
 | l::b,k,s,a,h=>by
  simp only[gL]at h;unfold fm at h;split at h
  ·cases c:rY k s l with
   | none=>rw[c]at h;cases h
   | some d=>
    rw[c]at h;have e:=Dn c;have f:=FX (show gL (k+1) d b=some a from h);simp only[List.length_cons];omega
  cases h
def P3{i:Nat}(h:i<=3):csz (i:Int)≠0:=by
 obtain rfl|rfl|rfl|rfl:i=0\/i=1\/i=2\/i=3:=ω
 all_goals decide
def co{l:List Int} : ∀r∈l.map (rI .own),r.length=1:=by
 intro r a;obtain⟨z,-,rfl⟩:=O4.1 a;rfl
def nO(c:aE)(u:aE.sml c):ar Tryz.prog 229 false [.val (some 1) (aE.enc .X c)] .one [B (bA c)]:=by
 have H:=u.1;refine fO 60 [] Tryz.func229 rfl ?_
 repeat'(first|refine gP ?_|(conv=>whnf);with_reducible refine Bf.N (λe=>?_) (λe=>?_))
 ·exact X0 (λz=>[B z]) (by symm;unfold bA;rw[U0 ω];rfl)
 have w:c.b.length=4:=ω
 (conv=>whnf)
 refine CF (ι:=Nat × List Int) (λi=>[(1,.H .box (aE.enc .X c)),(3,.H .one (aD .own i.2)),(4,.H .one [I (i.1:Nat)])]) (λi=>i.1<=4/\gL 0 [] (c.b.take i.1)=some i.2) (λi=>4 - i.1) (0,[]) ?_ ⟨W0 _,rfl⟩ λi k=>?_
 ·exact wB
 obtain⟨i,s⟩:=i;obtain⟨k,b⟩:=k;simp only at k b |-;have g:=FX b;rw[V1]at g;simp only[List.length_nil]at g;by_cases E:i<4
 ·obtain⟨l,d⟩ : ∃l,c.b[i]? = some l:=⟨_,I2 ω⟩
  have F:l.length<=1048576:=u.2 l (Z1 d)
  repeat'(first|refine gE ?_|(conv=>whnf);with_reducible refine Bf.D (λe=>?_) (λe=>?_))
  ·exact X0 (λz=>[B z]) (l9 d b (by unfold fm;rw[C9 ω])).symm
  have n:l.length<=8:=ω
  (conv=>whnf)
  refine CF (ι:=Nat × List Int) (λj=>[(1,.H .box (aE.enc .X c)),(3,.H .one (aD .own j.2)),(4,.H .one [I (i:Nat)]),(5,.H .one [I (j.1:Nat)])]) (λj=>j.1<=l.length/\rY i s (l.take j.1)=some j.2) (λj=>l.length - j.1) (0,s) ?_ ⟨W0 _,rfl⟩ λj o=>?_
  ·exact wB
  obtain⟨j,p⟩:=j;obtain⟨o,a⟩:=o;simp only at o a |-;have h:=Dn a;rw[V1]at h;by_cases q:j<l.length
  ·obtain⟨y,t⟩ : ∃y,l[j]? = some y:=⟨_,I2 q⟩
   repeat'(first|refine gE ?_|(conv=>whnf);first|with_reducible (first|refine Bf.D (λe=>?_) (λe=>?_)|refine Bf.N (λe=>?_) (λe=>?_))|refine C8 (aH y 0 511) ?_|refine C8 (ef (i:Nat)) ?_|refine CO (P3 ω) ?_|refine CR rfl ?_|refine CG (mT p y ω) ⟨⟨rfl,eg _⟩,⟨rfl,rfl⟩,trivial⟩ ?_|refine CU co (λr G=>by rw[O1.1 G];rfl) (by simp[aZ,eD]) (by simp;omega) (by simp only[C1];exact zh (by simp;omega) (by decide)) rfl ?_)
   all_goals first
    | exact X0 (λz=>[B z]) (l9 d b (Mx t a λ⟨J,K,L,M⟩=>by first|contradiction|omega)).symm
    | ((conv=>whnf)
       refine CE (j+1,p++[y]) ⟨(by simp only;omega),J3 t a ⟨ω,ω,(by assumption),(by assumption)⟩⟩ (by simp only;omega) ?_
       (repeat'(first|exact trivial|rfl|exact CL rfl (CL (X0 (C.s dY.own) (by simp[rI])) trivial)|refine CL ?_ ?_)))
  repeat'(first|refine gE ?_|(conv=>whnf);with_reducible refine CD (aa d) ?_)
  (conv=>whnf)
  rw[I7 ω]at a;refine CE (i+1,p) ⟨(by simp only;omega),(by rw[uV d b];unfold fm;rw[CB ⟨n,ω⟩];exact a)⟩ (by simp only;omega) ?_;exact wB
 repeat'(first|refine gE ?_|fail)
 rw[I7 ω]at b;exact X0 (λz=>[B z]) (by symm;unfold bA;rw[b,O0 w];rfl)
def gf(s:List Int):List (Int × Value):=s.map λa=>(a,.bool true)
def n8(a:Int):∀(s:List Int),mlook (gf s) a (.bool false)=.bool (decide (a∈s))
 | []=>by simp[gf,mlook]
 | x::s=>by
  have b:=n8 a s;simp only[gf,Z5,mlook]at b |-;by_cases h:x=a
  ·rw[CB h];simp[h]
  rw[C9 h,b]
  congr 1
  simp[show ¬a=x from λe=>h e.symm]
def uR{a:Int} : ∀{s:List Int},a∉s->gf (s++[a])=mput (gf s) a (.bool true)
 | [],_=>rfl
 | x::s,h=>by
  simp only[List.mem_cons,not_or]at h;have b:=uR h.2;simp only[gf,List.cons_append,Z5,mput]at b |-;rw[C9 λe=>h.1 e.symm,b]
def BT(c:aE)(u:aE.sml c):ar Tryz.prog 77 false [.val (some 1) (aE.enc .X c)] .one [B (bA c)]:=by
 have C:=u.1;refine fO 54 [] Tryz.func77 rfl ?_
 repeat'(first|refine gP ?_|fail)
 (conv=>whnf)
 refine CF (ι:=Nat × List Int) (λi=>[(1,.H .box (aE.enc .X c)),(3,.H .one [.m (gf i.2)]),(10,.H .one (jI .X c.b)),(11,.H .one [I c.b.length]),(12,.H .one [I (i.1:Nat)])]) (λi=>i.1<=c.b.length/\gL 0 [] (c.b.take i.1)=some i.2) (λi=>c.b.length - i.1) (0,[]) ?_ ⟨W0 _,rfl⟩ λi h=>?_
 ·exact wB
 obtain⟨i,s⟩:=i;obtain⟨h,b⟩:=h;simp only at h b |-;by_cases k:i<c.b.length
 ·obtain⟨l,d⟩ : ∃l,c.b[i]? = some l:=⟨_,I2 k⟩
  have w:l.length<=1048576:=u.2 l (Z1 d)
  repeat'(first|refine gE ?_|(conv=>whnf);first|with_reducible refine Bf.D (λe=>?_) (λe=>?_)|refine C8 (gi (i:Nat)) ?_)
  ·exact X0 (λz=>[B z]) (l9 d b (by unfold fm;rw[C9 ω])).symm
  rotate_left
  ·exact X0 (λz=>[B z]) (l9 d b (by unfold fm;rw[C9 ω])).symm
  have n:l.length<=8:=ω
  have o:i<=3:=ω
  (conv=>whnf)
  refine CF (ι:=Nat × List Int) (λj=>[(1,.H .box (aE.enc .X c)),(3,.H .one [.m (gf j.2)]),(4,.H .one [I (i:Nat)]),(10,.H .one (jI .X c.b)),(11,.H .one [I c.b.length]),(12,.H .one [I (i:Nat)]),(25,.H .one (aD .X l)),(26,.H .one [I l.length]),(27,.H .one [I (j.1:Nat)])]) (λj=>j.1<=l.length/\rY i s (l.take j.1)=some j.2) (λj=>l.length - j.1) (0,s) ?_ ⟨W0 _,rfl⟩ λj p=>?_
  ·exact wB
  obtain⟨j,q⟩:=j;obtain⟨p,a⟩:=p;simp only at p a |-;by_cases r:j<l.length
  ·obtain⟨y,t⟩ : ∃y,l[j]? = some y:=⟨_,I2 r⟩
   repeat'(first|refine gE ?_|(conv=>whnf);first|with_reducible (first|refine Bf.D (λe=>?_) (λe=>?_)|refine Bf.N (λe=>?_) (λe=>?_))|refine C8 (aM y 0 511) ?_|refine C8 (ee (i:Nat)) ?_|refine CO (P3 ω) ?_|refine CR rfl ?_|refine Ml.mk (n8 y q) ?_|refine Mu.mk (uR (by assumption)) ?_)
   all_goals first
    | exact X0 (λz=>[B z]) (l9 d b (Mx t a λ⟨E,F,G,H⟩=>by first|contradiction|omega)).symm
    | ((conv=>whnf)
       refine CE (j+1,q++[y]) ⟨(by simp only;omega),J3 t a ⟨ω,ω,(by assumption),(by assumption)⟩⟩ (by simp only;omega) ?_
       (exact wA))
  repeat'(first|refine gE ?_|fail)
  (conv=>whnf)
  rw[I7 ω]at a;refine CE (i+1,q) ⟨(by simp only;omega),(by rw[uV d b];unfold fm;rw[CB ⟨n,o⟩];exact a)⟩ (by simp only;omega) ?_;exact wB
 repeat'(first|refine gE ?_|fail)
 rw[I7 ω]at b;have g:((c.b.length:Int) == 4)=decide (c.b.length=4):=by
  by_cases g:c.b.length=4
  ·simp[g]
  rw[U0 g];simp;omega
 exact X0 (λz=>[B z]) (g.trans (by unfold bA;rw[b];simp))
def HX:∀{b:List (List Int)}{k:Nat}{s c:List Int},gL k s b=some c->∀l∈b,l.length<=8
 | [],k,s,c,h,l,a=>by simp at a
 | x::b,k,s,c,h,l,a=>by
  simp only[gL]at h;unfold fm at h;split at h
  ·rename_i e
   rcases List.mem_cons.1 a with rfl|a
   ·exact e.1
   cases d:rY k s x with
   | none=>rw[d]at h;cases h
   | some f=>rw[d]at h;exact HX (show gL (k+1) f b=some c from h) l a
  cases h
def vP{c:aE}(h:bA c=true):c.b.length=4/\∀l∈c.b,l.length<=8:=by
 unfold bA at h;simp only[I0,C0]at h;obtain⟨s,a⟩:=Option.isSome_iff_exists.1 h.2;exact⟨h.1,HX a⟩
def qH(f:aV)(n:aV.sml f):ar Tryz.prog 83 false [.val (some 2) (aV.enc .X f)] .one [B (cZ f)]:=by
 have C:=n.1.1;have E:f.a3.length<=1048576:=n.2;refine fO 61 [] Tryz.func83 rfl ?_
 repeat'(first|refine gP ?_|(conv=>whnf);first|with_reducible (first|refine Bf.D (λa=>?_) (λa=>?_)|refine Bf.N (λa=>?_) (λa=>?_))|refine C8 (aH f.S.length 1 32) ?_)
 ·exact X0 (λz=>[B z]) (by symm;unfold cZ;rw[U0 (by omega:¬(f.a3.length=f.S.length))];simp)
 rotate_left
 ·exact X0 (λz=>[B z]) (by symm;unfold cZ;rw[U0 (by omega:¬(1<=f.S.length/\f.S.length<=32))];rfl)
 have h:1<=f.S.length/\f.S.length<=32:=ω
 have j:f.a3.length=f.S.length:=ω
 (conv=>whnf)
 refine CF (ι:=Nat) (λi=>[(1,.H .box (aV.enc .X f)),(3,.H .one [I (i:Nat)])]) (λi=>i<=f.S.length/\((f.S.zip f.a3).take i).all (λq=>gY q.1 q.2)=true) (λi=>f.S.length - i) 0 ?_ ⟨W0 _,rfl⟩ λi o=>?_
 ·exact wB
 obtain⟨o,t⟩:=o;by_cases l:i<f.S.length
 ·obtain⟨r,c⟩ : ∃r,f.S[i]? = some r:=⟨_,I2 l⟩
  obtain⟨u,b⟩ : ∃u,f.a3[i]? = some u:=⟨_,I2 ω⟩
  repeat'(first|refine gE ?_|(conv=>whnf);with_reducible refine Bf.N (λa=>?_) (λa=>?_))
  ·exact X0 (λz=>[B z]) (iS c b (by unfold gY;rw[U0 ω];rfl)).symm
  have g:r.length=16:=ω
  (conv=>whnf)
  refine CF (ι:=Nat) (λk=>[(1,.H .box (aV.enc .X f)),(3,.H .one [I (i:Nat)]),(4,.H .one [I (k:Nat)])]) (λk=>k<=16/\(r.take k).all (iT u)=true) (λk=>16 - k) 0 ?_ ⟨W0 _,rfl⟩ λk w=>?_
  ·exact wB
  obtain⟨w,d⟩:=w;by_cases y:k<16
  ·obtain⟨v,e⟩ : ∃v,r[k]? = some v:=⟨_,I2 ω⟩
   cases u with
   | true=>
    repeat'(first|refine gE ?_|(conv=>whnf);first|with_reducible refine Bf.D (λa=>?_) (λa=>?_)|refine C8 (aH v 0 999) ?_)
    all_goals first
     | exact X0 (λz=>[B z]) (iS c b (su e (by first|(unfold iT;rw[U0 ω];rfl)|(unfold iT;rw[U0 (p:=v=0) ω];simp)))).symm
     | ((conv=>whnf)
        refine CE (ι:=Nat) (k+1) ⟨ω,cW e d (by unfold iT;first|(rw[O0 ω];rfl))⟩ ω ?_
        (exact wA))
   | false=>
    repeat'(first|refine gE ?_|(conv=>whnf);first|with_reducible (first|refine Bf.D (λa=>?_) (λa=>?_)|refine Bf.N (λa=>?_) (λa=>?_))|refine C8 (aH v 0 999) ?_)
    all_goals first
     | exact X0 (λz=>[B z]) (iS c b (su e (by first|(unfold iT;rw[U0 ω];rfl)|(unfold iT;rw[U0 (p:=v=0) ω];simp)))).symm
     | ((conv=>whnf)
        refine CE (ι:=Nat) (k+1) ⟨ω,cW e d (by unfold iT;first|(rw[O0 ω];rfl)|(rw[O0 (p:=0<=v/\v<=999) ω,O0 (p:=v=0) ω];rfl))⟩ ω ?_
        (exact wA))
  repeat'(first|refine gE ?_|fail)
  (conv=>whnf)
  refine CE (i+1) ⟨ω,cW (wD c b) t (by unfold gY;rw[im ω d];simp[g])⟩ ω ?_;exact wB
 repeat'(first|refine gE ?_|fail)
 exact X0 (λz=>[B z]) (by symm;unfold cZ;rw[im (by rw[List.length_zip];omega) t];simp[h,j])
def qC(f:aV)(h:aV.sml f):ar Tryz.prog 254 false [.val (some 2) (aV.enc .X f)] .one [B (cZ f)]:=by
 have C:=h.1.1;have E:f.a3.length<=1048576:=h.2;refine fO 55 [] Tryz.func254 rfl ?_
 repeat'(first|refine gP ?_|(conv=>whnf);first|with_reducible (first|refine Bf.D (λa=>?_) (λa=>?_)|refine Bf.N (λa=>?_) (λa=>?_))|refine C8 (aM f.S.length 1 32) ?_)
 ·exact X0 (λz=>[B z]) (by symm;unfold cZ;rw[U0 (by omega:¬(f.a3.length=f.S.length))];simp)
 rotate_left
 ·exact X0 (λz=>[B z]) (by symm;unfold cZ;rw[U0 (by omega:¬(1<=f.S.length/\f.S.length<=32))];rfl)
 have j:1<=f.S.length/\f.S.length<=32:=ω
 have l:f.a3.length=f.S.length:=ω
 (conv=>whnf)
 refine CF (ι:=Nat) (λi=>[(1,.H .box (aV.enc .X f)),(22,.H .one (jI .X f.S)),(23,.H .one [I (f.S.length)]),(24,.H .one [I ((i:Nat):Int)])]) (λi=>i<=f.S.length/\((f.S.zip f.a3).take i).all (λq=>gY q.1 q.2)=true) (λi=>f.S.length - i) (0) ?_ (⟨W0 _,rfl⟩) λi o=>?_
 ·exact wB
 obtain⟨o,p⟩:=o;by_cases n:i<f.S.length
 ·obtain⟨r,c⟩ : ∃r,f.S[i]? = some r:=⟨_,I2 n⟩
  obtain⟨u,b⟩ : ∃u,f.a3[i]? = some u:=⟨_,I2 ω⟩
  have y:r.length<=1048576:=h.1.2 r (Z1 c)
  repeat'(first|refine gE ?_|(conv=>whnf);with_reducible refine Bf.N (λa=>?_) (λa=>?_))
  ·exact X0 (λz=>[B z]) (iS c b (by unfold gY;rw[U0 ω];rfl)).symm
  have g:r.length=16:=ω
  (conv=>whnf)
  refine CF (ι:=Nat) (λk=>[(1,.H .box (aV.enc .X f)),(3,.H .one [I ((i:Nat):Int)]),(22,.H .one (jI .X f.S)),(23,.H .one [I (f.S.length)]),(24,.H .one [I ((i:Nat):Int)]),(32,.H .one (aD .X r)),(33,.H .one [I (r.length)]),(34,.H .one [I ((k:Nat):Int)])]) (λk=>k<=r.length/\(r.take k).all (iT u)=true) (λk=>r.length - k) (0) ?_ (⟨W0 _,rfl⟩) λk t=>?_
  ·exact wB
  obtain⟨t,d⟩:=t;by_cases w:k<r.length
  ·obtain⟨v,e⟩ : ∃v,r[k]? = some v:=⟨_,I2 ω⟩
   cases u with
   | true=>
    repeat'(first|refine gE ?_|(conv=>whnf);first|with_reducible (first|refine Bf.D (λa=>?_) (λa=>?_)|refine Bf.N (λa=>?_) (λa=>?_))|refine C8 (aM v 0 999) ?_)
    all_goals first
     | exact X0 (λz=>[B z]) (iS c b (su e (by unfold iT;grind))).symm
     | ((conv=>whnf)
        refine CE (ι:=Nat) (k+1) ⟨ω,cW e d (by unfold iT;grind)⟩ ω ?_
        (exact wA))
   | false=>
    repeat'(first|refine gE ?_|(conv=>whnf);first|with_reducible (first|refine Bf.D (λa=>?_) (λa=>?_)|refine Bf.N (λa=>?_) (λa=>?_))|refine C8 (aM v 0 999) ?_)
    all_goals first
     | exact X0 (λz=>[B z]) (iS c b (su e (by unfold iT;grind))).symm
     | ((conv=>whnf)
        refine CE (ι:=Nat) (k+1) ⟨ω,cW e d (by unfold iT;grind)⟩ ω ?_
        (exact wA))
  repeat'(first|refine gE ?_|fail)
  (conv=>whnf)
  refine CE (i+1) ⟨ω,cW (wD c b) p (by unfold gY;rw[im ω d];simp[g])⟩ ω ?_;exact wB
 repeat'(first|refine gE ?_|fail)
 exact X0 (λz=>[B z]) (by symm;unfold cZ;rw[im (by rw[List.length_zip];omega) p];simp[j,l])
def D8(t:aG)(b:Int)(g:aG.sml t):ar Tryz.prog 472 false [.val (some 1) (aG.enc .X t),.val none [I b]] .one [B (gH t b)]:=by
 have k:=g.1;refine fO 54 [] Tryz.func472 rfl ?_
 repeat'(first|refine gP ?_|fail)
 (conv=>whnf)
 refine CF (ι:=Nat) (λi=>[(1,.H .one [I (b)]),(2,.H .box (aG.enc .X t)),(5,.H .one [I ((i:Nat):Int)])]) (λi=>i<=t.J.length/\df i (λj=>kH b (nth t.J j))=true) (λi=>t.J.length - i) 0 ?_ ⟨W0 _,rfl⟩ λi c=>?_
 ·exact wB
 obtain⟨c,d⟩:=c;by_cases e:i<t.J.length
 ·have h:=ao e
  repeat'(first|refine gE ?_|(conv=>whnf);first|with_reducible (first|refine Bf.D (λa=>?_) (λa=>?_)|refine Bf.N (λa=>?_) (λa=>?_)|refine Bf.E (λa=>?_) (λa=>?_))|refine C8 (aH _ 0 2) ?_)
  all_goals first
   | exact X0 (λz=>[B z]) ((by symm;unfold gH;rw[cB e (U0 (by grind))];rfl))
   | ((conv=>whnf);refine CE (i+1) ⟨ω,bU d (O0 (by grind))⟩ ω ?_;(exact wB))
 repeat'(first|refine gE ?_|(conv=>whnf);refine C8 (aH _ 1 32) ?_)
 obtain rfl:i=t.J.length:=ω
 exact X0 (λz=>[B z]) ((by unfold gH;rw[d,Bool.true_and];exact decide_eq_decide.2 ω))
def BV(t:aG)(b:Int)(g:aG.sml t):ar Tryz.prog 255 false [.val (some 1) (aG.enc .X t),.val none [I b]] .one [B (gH t b)]:=by
 have k:=g.1;refine fO 49 [] Tryz.func255 rfl ?_
 repeat'(first|refine gP ?_|fail)
 (conv=>whnf)
 refine CF (ι:=Nat) (λi=>[(1,.H .one [I (b)]),(2,.H .box (aG.enc .X t)),(8,.H .one (yt .X t.J)),(9,.H .one [I (t.J.length)]),(10,.H .one [I ((i:Nat):Int)])]) (λi=>i<=t.J.length/\df i (λj=>kH b (nth t.J j))=true) (λi=>t.J.length - i) 0 ?_ ⟨W0 _,rfl⟩ λi c=>?_
 ·exact wB
 obtain⟨c,d⟩:=c;by_cases e:i<t.J.length
 ·have h:=ao e
  repeat'(first|refine gE ?_|(conv=>whnf);first|with_reducible (first|refine Bf.D (λa=>?_) (λa=>?_)|refine Bf.N (λa=>?_) (λa=>?_)|refine Bf.E (λa=>?_) (λa=>?_))|refine C8 (aM _ 0 2) ?_)
  all_goals first
   | exact X0 (λz=>[B z]) ((by symm;unfold gH;rw[cB e (U0 (by grind))];rfl))
   | ((conv=>whnf);refine CE (i+1) ⟨ω,bU d (O0 (by grind))⟩ ω ?_;(exact wB))
 repeat'(first|refine gE ?_|(conv=>whnf);refine C8 (aM _ 1 32) ?_)
 obtain rfl:i=t.J.length:=ω
 exact X0 (λz=>[B z]) ((by unfold gH;rw[d,Bool.true_and];exact decide_eq_decide.2 ω))
def ig(t:aG)(f:Int)(c:aG.sml t):ar Tryz.prog 473 false [.val (some 1) (aG.enc .X t),.val none [I f]] .one (aD .own (pagesOn t f)):=by
 have j:=c.1;refine fO 37 [] Tryz.func473 rfl ?_ (.inr (bH _))
 repeat'(first|refine gP ?_|fail)
 (conv=>whnf)
 refine CF (ι:=Nat) (λi=>[(1,.H .one [I (f)]),(2,.H .box (aG.enc .X t)),(5,.H .one (aD .own (kh t f i))),(6,.H .one [I ((i:Nat):Int)])]) (λi=>i<=t.J.length) (λi=>t.J.length - i) (0) ?_ (W0 _) λi k=>?_
 ·exact wB
 have d:=tS t f i;by_cases e:i<t.J.length
 ·have g:=ao e
  repeat'(first|refine gE ?_|(conv=>whnf);first|with_reducible (first|refine Bf.N (λb=>?_) (λb=>?_)|refine Bf.E (λb=>?_) (λb=>?_))|refine CU co (λr h=>by rw[O1.1 h];rfl) (by simp[aZ,eD]) (by simp;omega) (by simp only[C1];exact zh (by simp;omega) (by decide)) rfl ?_)
  all_goals first
   |(have a:LM t f i=true:=O0 (by grind)
     (conv=>whnf)
     refine CE (i+1) ω ω ?_;rw[B7 a]
     (repeat'(first|exact trivial|rfl|exact CL rfl (CL (X0 (C.s dY.own) (by simp[rI])) trivial)|refine CL ?_ ?_)))
   |(have a:LM t f i=false:=U0 (by grind)
     (conv=>whnf)
     refine CE (i+1) ω ω ?_;rw[EV a]
     (exact wA))
 repeat'(first|refine gE ?_|fail)
 obtain rfl:i=t.J.length:=ω
 rfl
def kW(t:aG)(f:Int)(c:aG.sml t):ar Tryz.prog 256 false [.val (some 1) (aG.enc .X t),.val none [I f]] .one (aD .own (pagesOn t f)):=by
 have j:=c.1;refine fO 32 [] Tryz.func256 rfl ?_ (.inr (bH _))
 repeat'(first|refine gP ?_|fail)
 (conv=>whnf)
 refine CF (ι:=Nat) (λi=>[(1,.H .one [I (f)]),(5,.H .one (aD .own (kh t f i))),(10,.H .one (yt .X t.J)),(11,.H .one [I (t.J.length)]),(12,.H .one [I ((i:Nat):Int)])]) (λi=>i<=t.J.length) (λi=>t.J.length - i) (0) ?_ (W0 _) λi k=>?_
 ·exact wB
 have d:=tS t f i;by_cases e:i<t.J.length
 ·have g:=ao e
  repeat'(first|refine gE ?_|(conv=>whnf);first|with_reducible (first|refine Bf.N (λb=>?_) (λb=>?_)|refine Bf.E (λb=>?_) (λb=>?_))|refine CU co (λr h=>by rw[O1.1 h];rfl) (by simp[aZ,eD]) (by simp;omega) (by simp only[C1];exact zh (by simp;omega) (by decide)) rfl ?_)
  all_goals first
   |(have a:LM t f i=true:=O0 (by grind)
     (conv=>whnf)
     refine CE (i+1) ω ω ?_;rw[B7 a]
     (repeat'(first|exact trivial|rfl|exact CL rfl (CL (X0 (C.s dY.own) (by simp[rI])) trivial)|refine CL ?_ ?_)))
   |(have a:LM t f i=false:=U0 (by grind)
     (conv=>whnf)
     refine CE (i+1) ω ω ?_;rw[EV a]
     (exact wA))
 repeat'(first|refine gE ?_|fail)
 obtain rfl:i=t.J.length:=ω
 rfl
def cR(t:aG)(p:Int)(b:aG.sml t):ar Tryz.prog 48 false [.val (some 1) (aG.enc .X t),.val none [I p]] .agg (bh.enc .own (ac t p)):=by
 have d:=b.1;refine fO 18 [] Tryz.func48 rfl ?_ (.inr (bh.enc_fr _));by_cases a:0<=p/\p<t.J.length
 ·have c:=ao (xs:=t.J) (i:=p.toNat) ω
  repeat'(first|refine gE ?_|(conv=>whnf);first|refine C8 (aH _ 0 _) ?_|refine CM a.1 (aa c) ?_)
  all_goals(unfold ac;rw[CB a];rfl)
 repeat'(first|refine gE ?_|(conv=>whnf);refine C8 (aH _ 0 _) ?_)
 all_goals(unfold ac;rw[C9 a];rfl)
def dD(t:aG)(p:Int)(b:aG.sml t):ar Tryz.prog 139 false [.val (some 1) (aG.enc .X t),.val none [I p]] .agg (bh.enc .own (ac t p)):=by
 have d:=b.1;refine fO 18 [] Tryz.func139 rfl ?_ (.inr (bh.enc_fr _));by_cases a:0<=p/\p<t.J.length
 ·have c:=ao (xs:=t.J) (i:=p.toNat) ω
  repeat'(first|refine gE ?_|(conv=>whnf);first|refine C8 (aM _ 0 _) ?_|refine CM a.1 (aa c) ?_)
  all_goals(unfold ac;rw[CB a];rfl)
 repeat'(first|refine gE ?_|(conv=>whnf);refine C8 (aM _ 0 _) ?_)
 all_goals(unfold ac;rw[C9 a];rfl)
def rM(t:aG)(f:Int):(pagesOn t f).length<=t.J.length:=tS ..
def pL(m:aR)(b:aR.sml m):ar Tryz.prog 364 false [.val (some 3) (aR.enc .X m)] .one [B (dn m)]:=by
 have q:m.V.a3.length<=1048576:=b.1.2;have l:m.V.S.length<=1048576:=b.1.1.1;have c:=qH m.V b.1;have e:=D8 m.Q m.V.S.length b.2;cases a:cZ m.V with
 | false=>
  rw[a]at c;refine fO 39 [(6,13,[26,27,28,29,30,31,32,33,34,35,36,37,38])] Tryz.func364 rfl ?_
  repeat'(first|refine gP ?_|(conv=>whnf);refine C8 c ?_)
  exact X0 (λz=>[B z]) ((by unfold dn;rw[a];rfl))
 | true=>
  have g:=DJ a;rw[a]at c;cases d:gH m.Q m.V.a3.length with
  | false=>
   rw[show(m.V.S.length:Int)=m.V.a3.length by omega,d]at e;refine fO 39 [(6,13,[26,27,28,29,30,31,32,33,34,35,36,37,38])] Tryz.func364 rfl ?_
   repeat'(first|refine gP ?_|(conv=>whnf);first|refine C8 ((show(m.V.S.length:Int)=m.V.a3.length by omega) ▸ e) ?_)
   exact X0 (λz=>[B z]) ((by unfold dn;rw[a,d];rfl))
  | true=>
   rw[show(m.V.S.length:Int)=m.V.a3.length by omega,d]at e;refine fO 39 [(6,13,[26,27,28,29,30,31,32,33,34,35,36,37,38])] Tryz.func364 rfl ?_
   repeat'(first|refine gP ?_|(conv=>whnf);first|refine C8 ((show(m.V.S.length:Int)=m.V.a3.length by omega) ▸ e) ?_)
   (conv=>whnf)
   refine CF (ι:=Nat) (λi=>[(1,.H .box (aR.enc .X m)),(3,.H .one [I ((i:Nat):Int)])]) (λi=>i<=m.V.a3.length/\df i (pw m)=true) (λi=>m.V.a3.length - i) 0 ?_ ⟨W0 _,rfl⟩ λi h=>?_
   ·exact wB
   obtain⟨h,j⟩:=h;by_cases k:i<m.V.a3.length
   ·have n:=ao k
    have o:=rM m.Q (i:Nat)
    repeat'(first|refine gE ?_|(conv=>whnf);first|with_reducible refine Bf.NB (λp=>?_) (λp=>?_)|refine C8 (ig m.Q (i:Nat) b.2) ?_)
    all_goals first
     | exact X0 (λz=>[B z]) ((by symm;unfold dn;rw[a,d,cB k (by unfold pw;grind)];rfl))
     | ((conv=>whnf);refine CE (i+1) ⟨ω,bU j (by unfold pw;grind)⟩ ω ?_;(exact wB))
   repeat'(first|refine gE ?_|fail)
   obtain rfl:i=m.V.a3.length:=ω
   exact X0 (λz=>[B z]) ((by unfold dn;rw[a,d,j];rfl))
def pE(m:aR)(d:aR.sml m):ar Tryz.prog 84 false [.val (some 3) (aR.enc .X m)] .one [B (dn m)]:=by
 have o:m.V.a3.length<=1048576:=d.1.2;have b:=qC m.V d.1;have e:=BV m.Q m.V.a3.length d.2;cases a:cZ m.V with
 | false=>
  rw[a]at b;refine fO 37 [] Tryz.func84 rfl ?_
  repeat'(first|refine gP ?_|(conv=>whnf);refine C8 b ?_)
  exact X0 (λz=>[B z]) ((by unfold dn;rw[a];rfl))
 | true=>
  rw[a]at b;cases c:gH m.Q m.V.a3.length with
  | false=>
   rw[c]at e;refine fO 37 [] Tryz.func84 rfl ?_
   repeat'(first|refine gP ?_|(conv=>whnf);first|refine C8 b ?_|refine C8 e ?_)
   exact X0 (λz=>[B z]) ((by unfold dn;rw[a,c];rfl))
  | true=>
   rw[c]at e;refine fO 37 [] Tryz.func84 rfl ?_
   repeat'(first|refine gP ?_|(conv=>whnf);first|refine C8 b ?_|refine C8 e ?_)
   (conv=>whnf)
   refine CF (ι:=Nat) (λi=>[(1,.H .box (aR.enc .X m)),(21,.H .one (xJ .X m.V.a3)),(22,.H .one [I (m.V.a3.length)]),(23,.H .one [I ((i:Nat):Int)])]) (λi=>i<=m.V.a3.length/\df i (pw m)=true) (λi=>m.V.a3.length - i) 0 ?_ ⟨W0 _,rfl⟩ λi g=>?_
   ·exact wB
   obtain⟨g,h⟩:=g;by_cases j:i<m.V.a3.length
   ·have k:=ao j
    have l:=rM m.Q (i:Nat)
    repeat'(first|refine gE ?_|(conv=>whnf);first|with_reducible refine Bf.NB (λn=>?_) (λn=>?_)|refine C8 (kW m.Q (i:Nat) d.2) ?_)
    all_goals first
     | exact X0 (λz=>[B z]) ((by symm;unfold dn;rw[a,c,cB j (by unfold pw;grind)];rfl))
     | ((conv=>whnf);refine CE (i+1) ⟨ω,bU h (by unfold pw;grind)⟩ ω ?_;(exact wB))
   repeat'(first|refine gE ?_|fail)
   obtain rfl:i=m.V.a3.length:=ω
   exact X0 (λz=>[B z]) ((by unfold dn;rw[a,c,h];rfl))
def mz(k:af)(d:af.sml k):ar Tryz.prog 223 false [.val (some 5) (af.enc .X k)] .one [B (ay k)]:=by
 have n:k.w.length<=1048576:=d.2;have a:=pL k.F d.1;refine fO 31 [] Tryz.func223 rfl ?_
 repeat'(first|refine gP ?_|fail)
 (conv=>whnf)
 refine CF (ι:=Nat) (λi=>[(1,.H .box (af.enc .X k)),(3,.H .one [I ((i:Nat):Int)])]) (λi=>i<=k.w.length/\df i (λj=>decide (0<=nth k.w j))=true) (λi=>k.w.length - i) 0 ?_ ⟨W0 _,rfl⟩ λi e=>?_
 ·exact wB
 obtain⟨e,g⟩:=e;by_cases h:i<k.w.length
 ·have l:=ao h
  repeat'(first|refine gE ?_|(conv=>whnf);with_reducible refine Bf.D (λc=>?_) (λc=>?_))
  all_goals first
   | exact X0 (λz=>[B z]) ((by symm;unfold ay;rw[cB h (U0 ω)];rfl))
   | ((conv=>whnf);refine CE (i+1) ⟨ω,bU g (O0 ω)⟩ ω ?_;(exact wB))
 obtain rfl:i=k.w.length:=ω
 cases b:dn k.F with
 | false=>
  rw[b]at a
  repeat'(first|refine gE ?_|(conv=>whnf);refine C8 a ?_)
  all_goals exact X0 (λz=>[B z]) ((by unfold ay;rw[b];simp))
 | true=>
  rw[b]at a
  repeat'(first|refine gE ?_|(conv=>whnf);first|with_reducible refine Bf.D (λc=>?_) (λc=>?_)|refine C8 (aH _ 0 100000) ?_)
  all_goals exact X0 (λz=>[B z]) ((by unfold ay;rw[b,g];simp only[Bool.true_and];first|exact decide_eq_decide.2 ω|(symm;exact U0 ω)))
def qQ(k:af)(b:af.sml k):ar Tryz.prog 27 false [.val (some 5) (af.enc .X k)] .one [B (ay k)]:=by
 have l:k.w.length<=1048576:=b.2;have g:=pE k.F b.1;refine fO 29 [] Tryz.func27 rfl ?_
 repeat'(first|refine gP ?_|fail)
 (conv=>whnf)
 refine CF (ι:=Nat) (λi=>[(1,.H .box (af.enc .X k)),(6,.H .one (aD .X k.w)),(7,.H .one [I (k.w.length)]),(8,.H .one [I ((i:Nat):Int)])]) (λi=>i<=k.w.length/\df i (λj=>decide (0<=nth k.w j))=true) (λi=>k.w.length - i) 0 ?_ ⟨W0 _,rfl⟩ λi c=>?_
 ·exact wB
 obtain⟨c,d⟩:=c;by_cases e:i<k.w.length
 ·have h:=ao e
  repeat'(first|refine gE ?_|(conv=>whnf);with_reducible refine Bf.D (λa=>?_) (λa=>?_))
  all_goals first
   | exact X0 (λz=>[B z]) ((by symm;unfold ay;rw[cB e (U0 ω)];rfl))
   | ((conv=>whnf);refine CE (i+1) ⟨ω,bU d (O0 ω)⟩ ω ?_;(exact wB))
 obtain rfl:i=k.w.length:=ω
 repeat'(first|refine gE ?_|(conv=>whnf);first|with_reducible refine Bf.D (λa=>?_) (λa=>?_)|refine C8 (aM _ 0 100000) ?_)
 all_goals exact X0 (λz=>[B z]) ((by unfold ay;rw[d];cases dn k.F<;>simp only[Bool.true_and,Bool.false_and]<;>first|(symm;exact U0 ω)|(symm;exact O0 ω)))
def xB(pages:Int)(r:aA)(b:0<=pages/\pages<=1048576):ar Tryz.prog 365 false [.val none [I pages],.val (some 2) (aA.enc .X r)] .one [B (rangeIn pages r)]:=by
 refine fO 18 [] Tryz.func365 rfl ?_
 repeat'(first|refine gP ?_|(conv=>whnf);first|with_reducible refine Bf.D (λa=>?_) (λa=>?_)|refine C8 (aH _ 1 _) ?_|refine C8 (aH _ 0 _) ?_)
 all_goals exact X0 (λz=>[B z]) ((by unfold rangeIn;first|(symm;exact U0 ω)|exact decide_eq_decide.2 ω))
def H8(pages:Int)(r:aA)(b:0<=pages/\pages<=1048576):ar Tryz.prog 238 false [.val none [I pages],.val (some 2) (aA.enc .X r)] .one [B (rangeIn pages r)]:=by
 refine fO 18 [] Tryz.func238 rfl ?_
 repeat'(first|refine gP ?_|(conv=>whnf);first|with_reducible refine Bf.D (λa=>?_) (λa=>?_)|refine C8 (aM _ 1 _) ?_|refine C8 (aM _ 0 _) ?_)
 all_goals exact X0 (λz=>[B z]) ((by unfold rangeIn;first|(symm;exact U0 ω)|exact decide_eq_decide.2 ω))
def nN(k:Int):ar Tryz.prog 475 false [.val none [I k]] .one [I (slots k)]:=by
 by_cases b:0<=k/\k<=3
 ·obtain rfl|rfl|rfl|rfl:k=0\/k=1\/k=2\/k=3:=ω
  all_goals
   refine fO 9 [] Tryz.func475 rfl ?_
   repeat'(first|refine gE ?_|(conv=>whnf);first|refine C8 (aH _ 0 3) ?_|refine CO (by decide) ?_|refine CN rfl ?_|refine CR rfl ?_)
   exact X0 (λz=>[I z]) (by decide)
 refine fO 9 [] Tryz.func475 rfl ?_
 repeat'(first|refine gE ?_|(conv=>whnf);refine C8 (aH _ 0 3) ?_)
 exact X0 (λz=>[I z]) (by unfold slots;rw[C9 ω,C9 ω,C9 ω,C9 ω])
def jj(k:Int):ar Tryz.prog 349 false [.val none [I k]] .one [I (slots k)]:=by
 by_cases b:0<=k/\k<=3
 ·obtain rfl|rfl|rfl|rfl:k=0\/k=1\/k=2\/k=3:=ω
  all_goals
   refine fO 9 [] Tryz.func349 rfl ?_
   repeat'(first|refine gE ?_|(conv=>whnf);first|refine C8 (gi _) ?_|refine C8 (ee _) ?_|refine CO (by decide) ?_|refine CN rfl ?_)
   exact X0 (λz=>[I z]) (by decide)
 refine fO 9 [] Tryz.func349 rfl ?_
 repeat'(first|refine gE ?_|(conv=>whnf);refine C8 (gi _) ?_)
 exact X0 (λz=>[I z]) (by unfold slots;rw[C9 ω,C9 ω,C9 ω,C9 ω])
def Nr(k b:Int):Bool:=decide (0<=k/\k<=3/\0<=b/\b<=lim k)
def qW(k b:Int):ar Tryz.prog 474 false [.val none [I (slots k)],.val none [I b]] .one [B (Nr k b)]:=by
 by_cases d:0<=k/\k<=3
 ·obtain rfl|rfl|rfl|rfl:k=0\/k=1\/k=2\/k=3:=ω
  all_goals
   first|rw[show slots 0=16 from rfl]|rw[show slots 1=8 from rfl]|rw[show slots 2=4 from rfl]|rw[show slots 3=2 from rfl]
   refine fO 15 [] Tryz.func474 rfl ?_
   repeat'(first|refine gE ?_|(conv=>whnf);first|refine C8 (aH _ 1 16) ?_|refine C8 (aH _ 0 _) ?_|refine CO (by decide) ?_|refine CN (show _=(65536:Int) by decide) ?_|refine CN (show _=(256:Int) by decide) ?_|refine CN (show _=(16:Int) by decide) ?_|refine CN (show _=(4:Int) by decide) ?_|refine CN (show _=(8:Int) by decide) ?_|refine CN (show _=(2:Int) by decide) ?_)
   all_goals exact X0 (λz=>[B z]) ((decide_eq_decide.2 (by simp[lim])))
 have c:slots k=0:=by unfold slots;rw[C9 ω,C9 ω,C9 ω,C9 ω]
 rw[c];refine fO 15 [] Tryz.func474 rfl ?_
 repeat'(first|refine gE ?_|(conv=>whnf);refine C8 (aH _ 1 16) ?_)
 exact X0 (λz=>[B z]) ((by symm;exact U0 ω))
def zL(k b:Int):ar Tryz.prog 389 false [.val none [I (slots k)],.val none [I b]] .one [B (Nr k b)]:=by
 by_cases d:0<=k/\k<=3
 ·obtain rfl|rfl|rfl|rfl:k=0\/k=1\/k=2\/k=3:=ω
  all_goals
   first|rw[show slots 0=16 from rfl]|rw[show slots 1=8 from rfl]|rw[show slots 2=4 from rfl]|rw[show slots 3=2 from rfl]
   refine fO 14 [] Tryz.func389 rfl ?_
   repeat'(first|refine gE ?_|(conv=>whnf);first|refine C8 (aM _ 1 16) ?_|refine C8 (aM _ 0 _) ?_|refine CO (by decide) ?_|refine CN (eP (by decide) (by decide)) ?_)
   all_goals exact X0 (λz=>[B z]) ((decide_eq_decide.2 (by simp[lim,IntKind.bits])))
 have c:slots k=0:=by unfold slots;rw[C9 ω,C9 ω,C9 ω,C9 ω]
 rw[c];refine fO 14 [] Tryz.func389 rfl ?_
 repeat'(first|refine gE ?_|(conv=>whnf);refine C8 (aM _ 1 16) ?_)
 exact X0 (λz=>[B z]) ((by symm;exact U0 ω))
def gM(s:ax):ar Tryz.prog 366 false [.val (some 3) (ax.enc .X s)] .one [B (bg s)]:=by
 refine fO 14 [(1,12,[3,4,5,6,7,8,9,10,11,12,13,2])] Tryz.func366 rfl ?_
 repeat'(first|refine gP ?_|(conv=>whnf);first|with_reducible refine Bf.D (λa=>?_) (λa=>?_)|refine C8 (aH _ 0 31) ?_|refine C8 (nN _) ?_|refine C8 (qW _ _) ?_)
 all_goals exact X0 (λz=>[B z]) ((by unfold bg;first|(symm;exact U0 ω)|exact decide_eq_decide.2 ω))
def iQ(s:ax):ar Tryz.prog 240 false [.val (some 3) (ax.enc .X s)] .one [B (bg s)]:=by
 refine fO 19 [(1,17,[3,4,5,6,7,8,9,10,11,12,13,14,15,16,17,18,2])] Tryz.func240 rfl ?_
 repeat'(first|refine gP ?_|(conv=>whnf);first|with_reducible refine Bf.D (λa=>?_) (λa=>?_)|refine C8 (aM _ 0 31) ?_|refine C8 (gi _) ?_|refine C8 (jj _) ?_|refine C8 (zL _ _) ?_)
 all_goals exact X0 (λz=>[B z]) ((by unfold bg;first|(symm;exact U0 ω)|exact decide_eq_decide.2 ω))
section
variable{α:Type}{xs:List α}{p:α->Bool}{i:Nat}{y:α}
def D3(h:xs[i]? = some y)(a:p y=true):xs.any p=true:=t4.2 ⟨y,Z1 h,a⟩
def yK(h:xs[i]? = some y)(a:(xs.take i).any p=false)(b:p y=false):(xs.take (i+1)).any p=false:=by
 rw[V5,h,List.any_append,a];simp[b]
def Jh(a:xs.length<=i)(b:(xs.take i).any p=false):xs.any p=false:=by
 rwa [I7 a]at b
def gF[Inhabited α](a:0<i)(b:i<xs.length):xs[((i:Int) - 1).toNat]? = some (nth xs (i - 1)):=by
 rw[show((i:Int) - 1).toNat=i - 1 by omega];exact ao ω
end
def xX{pages:Int}{xs:List aA}{i n:Nat}(a:df n (gK pages xs)=true)(b:i<n):1<=(nth xs i).b0/\(nth xs i).b0<=pages/\0<=(nth xs i).At/\(nth xs i).At<=pages - (nth xs i).b0:=by
 have:=dZ a b;unfold gK rangeIn at this;simp only[I0,C0]at this;exact this.1
def mE(pages:Int)(xs:List aA)(e:0<=pages/\pages<=1048576)(k:iH xs):ar Tryz.prog 224 false [.val none [I pages],.val none (bN .X xs)] .one [B (bC pages xs)]:=by
 have n:=k.1;refine fO 46 [(4,32,[12,13,14,15,16,17,18,19,20,21,22,23,24,25,26,27,28,29,30,31,32,33,34,35,36,37,38,39,40,41,42,43])] Tryz.func224 rfl ?_
 repeat'(first|refine gP ?_|fail)
 (conv=>whnf)
 refine CF (ι:=Nat) (λi=>[(0,.H .one [I (pages)]),(1,.H .one (bN .X xs)),(5,.H .one [I ((i:Nat):Int)])]) (λi=>i<=xs.length/\df i (gK pages xs)=true) (λi=>xs.length - i) 0 ?_ ⟨W0 _,rfl⟩ λi g=>?_
 ·exact wB
 obtain⟨g,d⟩:=g;by_cases c:i<xs.length
 ·have j:=ao c
  have o:0<i->1<=(nth xs (i - 1)).b0/\(nth xs (i - 1)).b0<=pages/\0<=(nth xs (i - 1)).At/\(nth xs (i - 1)).At<=pages - (nth xs (i - 1)).b0:=λh=>xX d ω
  cases a:rangeIn pages (nth xs i) with
  | false=>
   have b:=xB pages (nth xs i) e;rw[a]at b
   repeat'(first|refine gE ?_|(conv=>whnf);first|with_reducible refine CD (aa j) ?_|refine C8 b ?_)
   exact X0 (λz=>[B z]) ((by symm;unfold bC;rw[cB c (by unfold gK;rw[a];rfl)];rfl))
  | true=>
   have b:=xB pages (nth xs i) e;rw[a]at b
   repeat'(first|refine gE ?_|(conv=>whnf);first|with_reducible refine Bf.D (λl=>?_) (λl=>?_)|refine CM ω (aa (gF ω c)) ?_)
   all_goals first
    | exact X0 (λz=>[B z]) ((by symm;unfold bC;rw[cB c (by unfold gK;rw[a,U0 ω];rfl)];rfl))
    | ((conv=>whnf);refine CE (i+1) ⟨ω,bU d (by unfold gK;rw[a,O0 ω];rfl)⟩ ω ?_;(exact wB))
 repeat'(first|refine gE ?_|(conv=>whnf);refine C8 (aH pages 1 32) ?_)
 obtain rfl:i=xs.length:=ω
 exact X0 (λz=>[B z]) ((by unfold bC;rw[d];rfl))
def zG(pages:Int)(xs:List aA)(j:0<=pages/\pages<=1048576)(k:iH xs):ar Tryz.prog 72 false [.val none [I pages],.val none (bN .X xs)] .one [B (bC pages xs)]:=by
 have n:=k.1;refine fO 43 [(4,26,[14,15,16,17,18,19,20,21,22,23,24,25,26,27,28,29,30,31,32,33,34,35,36,37,38,39])] Tryz.func72 rfl ?_
 repeat'(first|refine gP ?_|fail)
 (conv=>whnf)
 refine CF (ι:=Nat) (λi=>[(0,.H .one [I (pages)]),(1,.H .one (bN .X xs)),(7,.H .one (bN .X xs)),(8,.H .one [I (xs.length)]),(9,.H .one [I ((i:Nat):Int)])]) (λi=>i<=xs.length/\df i (gK pages xs)=true) (λi=>xs.length - i) 0 ?_ ⟨W0 _,rfl⟩ λi e=>?_
 ·exact wB
 obtain⟨e,d⟩:=e;by_cases b:i<xs.length
 ·have g:=ao b
  have o:0<i->1<=(nth xs (i - 1)).b0/\(nth xs (i - 1)).b0<=pages/\0<=(nth xs (i - 1)).At/\(nth xs (i - 1)).At<=pages - (nth xs (i - 1)).b0:=λh=>xX d ω
  have c:=H8 pages (nth xs i) j;cases a:rangeIn pages (nth xs i) with
  | false=>
   rw[a]at c
   repeat'(first|refine gE ?_|(conv=>whnf);first|with_reducible refine CD (aa g) ?_|refine C8 c ?_)
   exact X0 (λz=>[B z]) ((by symm;unfold bC;rw[cB b (by unfold gK;rw[a];rfl)];rfl))
  | true=>
   rw[a]at c
   repeat'(first|refine gE ?_|(conv=>whnf);first|with_reducible refine Bf.D (λl=>?_) (λl=>?_)|refine CM ω (aa (gF ω b)) ?_)
   all_goals first
    | exact X0 (λz=>[B z]) ((by symm;unfold bC;rw[cB b (by unfold gK;rw[a,U0 ω];rfl)];rfl))
    | ((conv=>whnf);refine CE (i+1) ⟨ω,bU d (by unfold gK;rw[a,O0 ω];rfl)⟩ ω ?_;(exact wB))
 repeat'(first|refine gE ?_|(conv=>whnf);refine C8 (aM pages 1 32) ?_)
 obtain rfl:i=xs.length:=ω
 exact X0 (λz=>[B z]) ((by unfold bC;rw[d];rfl))
def zO(xs:List aA)(page:Int)(g:xs.length<=9223372036854775807):ar Tryz.prog 370 false [.val none (bN .X xs),.val none [I page]] .one [B (xs.any (rn page))]:=by
 refine fO 34 [(4,22,[12,13,14,15,16,17,18,19,20,21,22,23,24,25,26,27,28,29,30,31,32,33])] Tryz.func370 rfl ?_
 repeat'(first|refine gP ?_|fail)
 (conv=>whnf)
 refine CF (ι:=Nat) (λi=>[(0,.H .one (bN .X xs)),(1,.H .one [I (page)]),(5,.H .one [I ((i:Nat):Int)])]) (λi=>i<=xs.length/\(xs.take i).any (rn page)=false) (λi=>xs.length - i) (0) ?_ (⟨W0 _,rfl⟩) λi b=>?_
 ·exact wB
 obtain⟨b,c⟩:=b;by_cases d:i<xs.length
 ·have a:=ao d
  repeat'(first|refine gE ?_|(conv=>whnf);first|with_reducible refine Bf.D (λe=>?_) (λe=>?_)|refine CN rfl ?_)
  all_goals first
   | exact X0 (λz=>[B z]) ((D3 a (by unfold rn;rw[O0 (by assumption),O0 (by assumption)];rfl)).symm)
   | ((conv=>whnf);refine CE (i+1) ⟨ω,yK a c (by unfold rn;first|(rw[U0 (by assumption:¬(nth xs i).At<=page)];rfl)|(rw[U0 (by assumption:¬page<_)];simp))⟩ ω ?_;(exact wB))
 repeat'(first|refine gE ?_|fail)
 exact X0 (λz=>[B z]) ((Jh ω c).symm)
def tdiv16{z:Int}(h:0<=z):z.tdiv 16=z / 16:=Int.tdiv_eq_ediv_of_nonneg h
def mD(z:Int):ar Tryz.prog 384 false [.val none [I z]] .one [I (fN z)]:=by
 refine fO 10 [] Tryz.func384 rfl ?_;by_cases b:9<=z/\z<=1000
 ·repeat'(first|refine gE ?_|(conv=>whnf);first|refine C8 (aH z 9 1000) ?_|refine CO (by decide) ?_|refine CN ((X0 _ (tdiv16 ω)).trans (eP ω ω)) ?_)
  all_goals exact X0 (λz=>[I z]) (by unfold fN;rw[CB b];omega)
 repeat'(first|refine gE ?_|(conv=>whnf);refine C8 (aH z 9 1000) ?_)
 all_goals exact X0 (λz=>[I z]) (by unfold fN;rw[C9 b])
def z6(z:Int):ar Tryz.prog 206 false [.val none [I z]] .one [I (fN z)]:=by
 refine fO 10 [] Tryz.func206 rfl ?_;by_cases b:9<=z/\z<=1000
 ·repeat'(first|refine gE ?_|(conv=>whnf);first|refine C8 (aM z 9 1000) ?_|refine CO (by decide) ?_|refine CN ((X0 _ (tdiv16 ω)).trans (eP ω ω)) ?_)
  all_goals exact X0 (λz=>[I z]) (by unfold fN;rw[CB b];omega)
 repeat'(first|refine gE ?_|(conv=>whnf);refine C8 (aM z 9 1000) ?_)
 all_goals exact X0 (λz=>[I z]) (by unfold fN;rw[C9 b])
def nD(l:aB):ar Tryz.prog 368 false [.val (some 3) (aB.enc .X l)] .one [B (bJ l)]:=by
 have b:=mD l.u;by_cases c:9<=l.u/\l.u<=1000
 ·rw[show fN l.u=(l.u+15) / 16 from CB c]at b
  refine fO 22 [] Tryz.func368 rfl ?_
  repeat'(first|refine gP ?_|(conv=>whnf);first|with_reducible (first|refine Bf.D (λa=>?_) (λa=>?_)|refine Bf.E (λa=>?_) (λa=>?_))|refine C8 (aH _ 0 _) ?_)
  all_goals exact X0 (λz=>[B z]) ((by unfold bJ;first|(symm;exact U0 ω)|exact decide_eq_decide.2 ω))
 rw[show fN l.u=0 from C9 c]at b;refine fO 22 [] Tryz.func368 rfl ?_
 repeat'(first|refine gE ?_|(conv=>whnf);first|with_reducible refine Bf.D (λa=>?_) (λa=>?_)|refine C8 b ?_)
 all_goals exact X0 (λz=>[B z]) ((by unfold bJ;symm;exact U0 ω))
def ss(l:aB):ar Tryz.prog 241 false [.val (some 3) (aB.enc .X l)] .one [B (bJ l)]:=by
 have b:=z6 l.u;by_cases c:9<=l.u/\l.u<=1000
 ·rw[show fN l.u=(l.u+15) / 16 from CB c]at b
  refine fO 22 [(1,20,[3,4,5,6,7,8,9,10,11,12,13,14,15,16,17,18,19,20,21,2])] Tryz.func241 rfl ?_
  repeat'(first|refine gE ?_|(conv=>whnf);first|with_reducible refine Bf.E (λa=>?_) (λa=>?_)|refine C8 (aM _ 9 1000) ?_|refine C8 (aM _ 0 _) ?_)
  all_goals exact X0 (λz=>[B z]) ((by unfold bJ;first|(symm;exact U0 ω)|exact decide_eq_decide.2 ω))
 refine fO 22 [(1,20,[3,4,5,6,7,8,9,10,11,12,13,14,15,16,17,18,19,20,21,2])] Tryz.func241 rfl ?_
 repeat'(first|refine gE ?_|(conv=>whnf);refine C8 (aM _ 9 1000) ?_)
 all_goals exact X0 (λz=>[B z]) ((by unfold bJ;symm;exact U0 ω))
def nr{z:Int}(h:0<=z/\z<=9223372036854775807):(BitVec.ofInt IntKind.i64.bits z).toNat=z.toNat:=by
 show(BitVec.ofInt 64 z).toNat=z.toNat;rw[BitVec.toNat_ofInt]
 congr 1
 exact Int.emod_eq_of_lt h.1 (by show z<((2 ^ 64:Nat):Int);have:=h.2;norm_cast;omega)
def and64{z1 z2:Int}(h1:0<=z1/\z1<=9223372036854775807)(a:0<=z2/\z2<=9223372036854775807):IntKind.i64.wrap ((BitVec.ofInt IntKind.i64.bits z1 &&& BitVec.ofInt IntKind.i64.bits z2).toNat:Nat)=((z1.toNat &&& z2.toNat:Nat):Int):=by
 rw[BitVec.toNat_and,nr h1,nr a];have:z1.toNat &&& z2.toNat<=z1.toNat:=Nat.and_le_left;exact eP ω ω
def Hj(k:Int):lim k<=65535:=by
 unfold lim
 (repeat' split)<;>decide
def f9{s:ax}(h:bg s=true):0<=s.b2/\s.b2<=9223372036854775807:=by
 unfold bg at h;simp only[C0]at h;have:=Hj s.d;omega
def mI(b c:ax):ar Tryz.prog 371 false [.val (some 3) (ax.enc .X b),.val (some 3) (ax.enc .X c)] .one [B (meshable b c)]:=by
 have g:=gM b;have h:=gM c;cases d:bg b<;>rw[d]at g<;>cases e:bg c<;>rw[e]at h
 all_goals
  refine fO 33 [] Tryz.func371 rfl ?_
  repeat'(first|refine gP ?_|(conv=>whnf);first|with_reducible (first|refine Bf.N (λa=>?_) (λa=>?_)|refine Bf.E (λa=>?_) (λa=>?_))|refine CN (and64 (f9 d) (f9 e)) ?_)
  all_goals exact X0 (λz=>[B z]) ((by unfold meshable;rw[d,e];first|rfl|(symm;exact U0 ω)|(rw[Y4];simp;omega)))
def m0(b c:ax):ar Tryz.prog 244 false [.val (some 3) (ax.enc .X b),.val (some 3) (ax.enc .X c)] .one [B (meshable b c)]:=by
 have g:=iQ b;have h:=iQ c;cases d:bg b<;>rw[d]at g<;>cases e:bg c<;>rw[e]at h
 all_goals
  refine fO 33 [] Tryz.func244 rfl ?_
  repeat'(first|refine gP ?_|(conv=>whnf);first|with_reducible (first|refine Bf.N (λa=>?_) (λa=>?_)|refine Bf.E (λa=>?_) (λa=>?_))|refine CN (and64 (f9 d) (f9 e)) ?_)
  all_goals exact X0 (λz=>[B z]) ((by unfold meshable;rw[d,e];first|rfl|(symm;exact U0 ω)|(rw[Y4];simp;omega)))
def Ba(k:Int):ar Tryz.prog 394 false [.val none [I k]] .one [B (decide (0<=k/\k<=15))]:=by
 refine fO 5 [] Tryz.func394 rfl ?_
 repeat'(first|refine gP ?_|(conv=>whnf);refine C8 (aM k 0 15) ?_)
 rfl
def vH(p:bY)(e:bY.sml p):ar Tryz.prog 379 false [.val (some 3) (bY.enc .X p)] .one [B (eO p)]:=by
 have h:p.S.length<=1048576:=e;refine fO 51 [(4,25,[11,12,13,14,15,16,17,18,19,20,21,22,23,24,25,26,27,28,29,30,31,32,33,34,35])] Tryz.func379 rfl ?_
 repeat'(first|refine gP ?_|fail)
 (conv=>whnf)
 refine CF (ι:=Nat) (λi=>[(1,.H .box (bY.enc .X p)),(3,.H .one [I ((i:Nat):Int)])]) (λi=>i<=p.S.length/\df i (mF p.S)=true) (λi=>p.S.length - i) 0 ?_ ⟨W0 _,rfl⟩ λi c=>?_
 ·exact wB
 obtain⟨c,d⟩:=c;by_cases b:i<p.S.length
 ·have g:=ao b
  repeat'(first|refine gE ?_|(conv=>whnf);first|with_reducible refine Bf.D (λa=>?_) (λa=>?_)|refine C8 (aH _ 0 15) ?_|refine CM ω (aa (gF ω b)) ?_)
  all_goals first
   | exact X0 (λz=>[B z]) ((by symm;unfold eO;rw[cB b (U0 ω)];rfl))
   | ((conv=>whnf);refine CE (i+1) ⟨ω,bU d (O0 ω)⟩ ω ?_;(exact wB))
 obtain rfl:i=p.S.length:=ω
 repeat'(first|refine gE ?_|(conv=>whnf);first|with_reducible refine Bf.D (λa=>?_) (λa=>?_)|refine C8 (aH _ 0 31) ?_)
 all_goals exact X0 (λz=>[B z]) ((by unfold eO;rw[d];simp only[Bool.true_and];first|(symm;exact U0 ω)|(rw[Y4];simp;omega)))
def vr(p:bY)(e:bY.sml p):ar Tryz.prog 251 false [.val (some 3) (bY.enc .X p)] .one [B (eO p)]:=by
 have h:p.S.length<=1048576:=e;refine fO 46 [] Tryz.func251 rfl ?_
 repeat'(first|refine gP ?_|fail)
 (conv=>whnf)
 refine CF (ι:=Nat) (λi=>[(1,.H .box (bY.enc .X p)),(6,.H .one (aD .X p.S)),(7,.H .one [I (p.S.length)]),(8,.H .one [I ((i:Nat):Int)])]) (λi=>i<=p.S.length/\df i (mF p.S)=true) (λi=>p.S.length - i) 0 ?_ ⟨W0 _,rfl⟩ λi c=>?_
 ·exact wB
 obtain⟨c,d⟩:=c;by_cases b:i<p.S.length
 ·have g:=ao b
  repeat'(first|refine gE ?_|(conv=>whnf);first|with_reducible refine Bf.D (λa=>?_) (λa=>?_)|refine C8 (Ba _) ?_|refine CM ω (aa (gF ω b)) ?_)
  all_goals first
   | exact X0 (λz=>[B z]) ((by symm;unfold eO;rw[cB b (U0 ω)];rfl))
   | ((conv=>whnf);refine CE (i+1) ⟨ω,bU d (O0 ω)⟩ ω ?_;(exact wB))
 obtain rfl:i=p.S.length:=ω
 repeat'(first|refine gE ?_|(conv=>whnf);first|with_reducible refine Bf.D (λa=>?_) (λa=>?_)|refine C8 (aM _ 0 31) ?_)
 all_goals exact X0 (λz=>[B z]) ((by unfold eO;rw[d];simp only[Bool.true_and];first|(symm;exact U0 ω)|(rw[Y4];simp;omega)))
def yj(j:cn)(a:cn.sml j):ar Tryz.prog 233 false [.val (some 5) (cn.enc .X j)] .one [B (j9 j)]:=by
 have e:j.W.S.length<=1048576:=a;have b:=vH j.W a;cases c:eO j.W<;>rw[c]at b
 all_goals
  refine fO 20 [] Tryz.func233 rfl ?_
  repeat'(first|refine gP ?_|(conv=>whnf);first|with_reducible refine Bf.D (λd=>?_) (λd=>?_)|refine C8 (aH _ 0 5) ?_|refine C8 (aH _ 0 _) ?_)
  all_goals exact X0 (λz=>[B z]) ((by unfold j9;rw[c];first|rfl|(symm;exact U0 ω)|(rw[Y4];simp;omega)))
def zf(j:cn)(a:cn.sml j):ar Tryz.prog 81 false [.val (some 5) (cn.enc .X j)] .one [B (j9 j)]:=by
 have e:j.W.S.length<=1048576:=a;have b:=vr j.W a;cases c:eO j.W<;>rw[c]at b
 all_goals
  refine fO 20 [] Tryz.func81 rfl ?_
  repeat'(first|refine gP ?_|(conv=>whnf);first|with_reducible refine Bf.D (λd=>?_) (λd=>?_)|refine C8 (aM _ 0 5) ?_|refine C8 (aM _ 0 _) ?_)
  all_goals exact X0 (λz=>[B z]) ((by unfold j9;rw[c];first|rfl|(symm;exact U0 ω)|(rw[Y4];simp;omega)))
def lr(l:aB)(k:Nat):lpgs l (k+1)=lpgs l k++[l.R+(k:Nat)]:=by
 unfold lpgs;rw[List.range_succ,X5];rfl
def EK(l:aB)(k:Nat):(lpgs l k).length=k:=by unfold lpgs;simp
def Pc(l:aB){k n:Nat}(h:k<=n):lpgs l k <+: lpgs l n:=by
 induction n with
 | zero=>
  obtain rfl:k=0:=ω
  exact List.prefix_refl _
 | succ n b=>
  rcases Nat.lt_or_ge n k with a|a
  ·obtain rfl:k=n+1:=ω
   exact List.prefix_refl _
  rw[lr];exact(b a).trans (List.prefix_append ..)
def oV(sp:List ax){la:List aB}{i:Nat}{l:aB}(h:la[i]? = some l):pgs sp (la.take (i+1))=pgs sp (la.take i)++lpgs l l.a4.toNat:=by
 unfold pgs;rw[V5,h,List.flatMap_append];simp
def Q7(sp:List ax)(la:List aB)(i:Nat):pgs sp (la.take i) <+: pgs sp la:=by
 unfold pgs;refine(List.prefix_append_right_inj _).2 ?_
 conv=>rhs;rw[<-List.take_append_drop i la,List.flatMap_append]
 exact List.prefix_append ..
def M6{S all:List Int}{p:Int}(h:(S++[p]) <+: all)(b:p∈S):decide all.Nodup=false:=by
 refine U0 λc=>?_
 have a:=c.sublist h.sublist;rw[List.nodup_append]at a;exact a.2.2 p b p (by simp) rfl
def lO{S:List Int}{p:Int}(h:S.Nodup)(b:p∉S):(S++[p]).Nodup:=by
 rw[List.nodup_append];exact⟨h,by simp,λx c y a e=>by simp at a;subst a;subst e;exact b c⟩
def Gw{sp:List ax}{la:List aB}{i:Nat}{s:ax}(h:sp[i]? = some s):((sp.take i).map (·.R)++[s.R]) <+: pgs sp la:=by
 have a:(sp.take i).map (·.R)++[s.R]=(sp.take (i+1)).map (·.R):=by rw[V5,h];simp
 rw[a];refine List.IsPrefix.trans ?_ (List.prefix_append ..);rw[C4];exact List.take_prefix ..
def AQ{sp:List ax}{la:List aB}{i k:Nat}{l:aB}(h:la[i]? = some l)(a:k<l.a4.toNat):(pgs sp (la.take i)++lpgs l k++[l.R+(k:Nat)]) <+: pgs sp la:=by
 refine List.IsPrefix.trans ?_ (Q7 sp la (i+1));rw[oV sp h,W5,<-lr];exact(List.prefix_append_right_inj _).2 (Pc l a)
def qU{sp:List ax}{la:List aB}{i:Nat}{s:ax}(h:sp[i]? = some s)(a:bg s=false):bo sp la=false:=by
 unfold bo;rw[fo h a];rfl
def pS{sp:List ax}{la:List aB}{i:Nat}{l:aB}(h:la[i]? = some l)(a:bJ l=false):bo sp la=false:=by
 unfold bo;rw[fo h a];simp
def kY{sp:List ax}{la:List aB}{S:List Int}{p:Int}(h:(S++[p]) <+: pgs sp la)(a:p∈S):bo sp la=false:=by
 unfold bo;rw[M6 h a];simp
def tJ{sp:List ax}{la:List aB}(h1:sp.all bg=true)(a:la.all bJ=true)(b:(pgs sp la).Nodup):bo sp la=true:=by
 unfold bo;rw[h1,a,O0 b];rfl
def aO{l:aB}(h:bJ l=true):1<=l.a4/\l.a4<=63/\0<=l.R/\l.R<=31:=by
 unfold bJ at h;simp only[C0]at h;omega
def my(sp:List ax)(la:List aB)(t:dS sp)(u:dQ la):ar Tryz.prog 225 false [.val none (bX .X sp),.val none (cx .X la)] .one [B (bo sp la)]:=by
 have J:=t.1;have K:=u.1;refine fO 79 [] Tryz.func225 rfl ?_
 repeat'(first|refine gP ?_|fail)
 (conv=>whnf)
 refine CF (ι:=Nat × List Int) (λi=>[(0,.H .one (bX .X sp)),(1,.H .one (cx .X la)),(5,.H .one (aD .own i.2)),(6,.H .one [I ((i.1:Nat):Int)])]) (λi=>i.1<=sp.length/\i.2=(sp.take i.1).map (·.R)/\(sp.take i.1).all bg=true/\i.2.Nodup) (λi=>sp.length - i.1) ((0,[])) ?_ (⟨W0 _,rfl,rfl,List.nodup_nil⟩) λi p=>?_
 ·exact wB
 obtain⟨i,S⟩:=i;obtain⟨p,o,h,l⟩:=p;simp only at p o h l |-;have L:S.length=i:=by rw[o,C1,V1];omega
 by_cases w:i<sp.length
 ·have a:=ao w
  have n:=gM (nth sp i);cases j:bg (nth sp i)<;>rw[j]at n
  ·repeat'(first|refine gE ?_|(conv=>whnf);first|with_reducible refine CD (aa a) ?_|refine C8 n ?_)
   exact X0 (λz=>[B z]) ((qU a j).symm)
  repeat'(first|refine gE ?_|(conv=>whnf);first|with_reducible refine Bf.D (λy=>?_) (λy=>?_)|refine CG (mT S _ ω) ⟨⟨rfl,eg _⟩,⟨rfl,rfl⟩,trivial⟩ ?_|refine CU co (λr E=>by rw[O1.1 E];rfl) (by simp[aZ,eD]) (by simp;omega) (by simp only[C1];exact zh (by simp;omega) (by decide)) rfl ?_)
  all_goals first
   | exact X0 (λz=>[B z]) ((kY (S:=S) (by rw[o];exact Gw a) (by assumption)).symm)
   | ((conv=>whnf)
      refine CE (i+1,S++[(nth sp i).R]) ⟨(by simp only;omega),(by simp only;rw[o,V5,a];simp),(cW a h j),lO l (by assumption)⟩ (by simp only;omega) ?_
      (repeat'(first|exact trivial|rfl|exact CL rfl (CL (X0 (C.s dY.own) (by simp[rI])) trivial)|refine CL ?_ ?_)))
 obtain rfl:i=sp.length:=ω
 rw[C5]at h o
 repeat'(first|refine gE ?_|fail)
 (conv=>whnf)
 refine CF (ι:=Nat × List Int) (λi=>[(1,.H .one (cx .X la)),(5,.H .one (aD .own i.2)),(7,.H .one [I ((i.1:Nat):Int)])]) (λi=>i.1<=la.length/\i.2=pgs sp (la.take i.1)/\(la.take i.1).all bJ=true/\i.2.Nodup/\i.2.length<=1048576+64*i.1) (λi=>la.length - i.1) ((0,S)) ?_ (⟨W0 _,by rw[o];unfold pgs;simp,rfl,l,by simp only;omega⟩) λi p=>?_
 ·exact wB
 obtain⟨i,S2⟩:=i;obtain⟨F,c,b,d,G⟩:=p;simp only at F c b d G |-;by_cases w:i<la.length
 ·have a:=ao w
  have n:=nD (nth la i);cases j:bJ (nth la i)<;>rw[j]at n
  ·repeat'(first|refine gE ?_|(conv=>whnf);first|with_reducible refine CD (aa a) ?_|refine C8 n ?_)
   exact X0 (λz=>[B z]) ((pS a j).symm)
  have M:=aO j
  repeat'(first|refine gE ?_|(conv=>whnf);first|with_reducible refine CD (aa a) ?_|refine C8 n ?_)
  (conv=>whnf)
  refine CF (ι:=Nat × List Int) (λk=>[(1,.H .one (cx .X la)),(5,.H .one (aD .own k.2)),(7,.H .one [I ((i:Nat):Int)]),(8,.H .one [I ((k.1:Nat):Int)])]) (λk=>k.1<=(nth la i).a4.toNat/\k.2=S2++lpgs (nth la i) k.1/\k.2.Nodup) (λk=>(nth la i).a4.toNat - k.1) ((0,S2)) ?_ (⟨W0 _,by simp[lpgs],d⟩) λk H=>?_
  ·exact wB
  obtain⟨k,q⟩:=k;obtain⟨H,e,g⟩:=H;simp only at H e g |-;have N:q.length=S2.length+k:=by rw[e,O3,EK]
  by_cases O:k<(nth la i).a4.toNat
  ·repeat'(first|refine gE ?_|(conv=>whnf);first|with_reducible refine Bf.D (λy=>?_) (λy=>?_)|refine CG (mT q _ ω) ⟨⟨rfl,eg _⟩,⟨rfl,rfl⟩,trivial⟩ ?_|refine CU co (λr E=>by rw[O1.1 E];rfl) (by simp[aZ,eD]) (by simp;omega) (by show _*8<=_;simp;omega) rfl ?_)
   all_goals first
    | exact X0 (λz=>[B z]) ((kY (S:=q) (by rw[e,c];exact AQ a O) (by assumption)).symm)
    | ((conv=>whnf)
       refine CE (k+1,q++[(nth la i).R+(k:Nat)]) ⟨(by simp only;omega),(by simp only;rw[e,lr,W5]),lO g (by assumption)⟩ (by simp only;omega) ?_
       (repeat'(first|exact trivial|rfl|exact CL rfl (CL (X0 (C.s dY.own) (by simp[rI])) trivial)|refine CL ?_ ?_)))
  obtain rfl:k=(nth la i).a4.toNat:=ω
  repeat'(first|refine gE ?_|(conv=>whnf);with_reducible refine CD (aa a) ?_)
  ((conv=>whnf);refine CE (i+1,q) ⟨(by simp only;omega),(by simp only;rw[e,c,<-oV sp a]),(cW a b j),g,(by simp only;omega)⟩ (by simp only;omega) ?_;(exact wB))
 obtain rfl:i=la.length:=ω
 rw[C5]at b c
 repeat'(first|refine gE ?_|fail)
 exact X0 (λz=>[B z]) ((tJ h b (by rw[<-c];exact d)).symm)
def ins(S:List Int)(p:Int):List Int:=if p∈S then S else S++[p]
def JF{p:Int} : ∀{S:List Int},p∈S->mput (gf S) p (.bool true)=gf S
 | x::S,h=>by
  simp only[gf,Z5,mput];by_cases a:x=p
  ·rw[CB a,a]
  rw[C9 a];have:=JF (S:=S) ((List.mem_cons.1 h).resolve_left λe=>a e.symm);simp only[gf]at this;rw[this]
def yL(S:List Int)(p:Int):gf (ins S p)=mput (gf S) p (.bool true):=by
 unfold ins;split
 ·rw[JF (by assumption)]
 rw[uR (by assumption)]
def Mb(S:List Int)(p:Int):aT Tryz.prog 239 false [.val none [I p],.ptr [.m (gf S)]] [.val none [I p],.ptr [.m (gf (ins S p))]] .one [B (decide (p∉S))]:=by
 refine fM 12 [] [] [(0,0),(0,0)] Tryz.func239 rfl (λu q=>?_)
 repeat'(first|(conv=>whnf);first|refine Ml.mk (n8 p S) ?_|refine Mu.mk (yL S p) ?_)
 refine CH rfl ?_ ?_
 ·exact X0 (λz=>[B z]) (by simp)
 exact wB
def qM(sp:List ax)(la:List aB)(t:dS sp)(u:dQ la):ar Tryz.prog 73 false [.val none (bX .X sp),.val none (cx .X la)] .one [B (bo sp la)]:=by
 have F:=t.1;have G:=u.1;refine fP 54 [(239,[0,2])] [] Tryz.func73 rfl ?_
 repeat'(first|refine gP ?_|fail)
 (conv=>whnf)
 refine CF (ι:=Nat × List Int) (λi=>[(1,.H .one (cx .X la)),(5,.H .box [.m (gf i.2)]),(6,.fn 239 [5]),(14,.H .one (bX .X sp)),(15,.H .one [I (sp.length)]),(16,.H .one [I ((i.1:Nat):Int)])]) (λi=>i.1<=sp.length/\i.2=(sp.take i.1).map (·.R)/\(sp.take i.1).all bg=true/\i.2.Nodup) (λi=>sp.length - i.1) ((0,[])) ?_ (⟨W0 _,rfl,rfl,List.nodup_nil⟩) λi p=>?_
 ·exact wB
 obtain⟨i,S⟩:=i;obtain⟨p,q,h,n⟩:=p;simp only at p q h n |-;by_cases w:i<sp.length
 ·have c:=ao w
  have o:=iQ (nth sp i);cases l:bg (nth sp i)<;>rw[l]at o
  ·repeat'(first|refine gE ?_|(conv=>whnf);first|with_reducible refine CD (aa c) ?_|refine C8 o ?_)
   exact X0 (λz=>[B z]) ((qU c l).symm)
  repeat'(first|refine gE ?_|(conv=>whnf);first|with_reducible refine Bf.D (λy=>?_) (λy=>?_)|refine CK (Mb S _) (.inl rfl) ?_)
  all_goals first
   | exact X0 (λz=>[B z]) ((kY (S:=S) (by rw[q];exact Gw c) (by grind)).symm)
   |(have a:(nth sp i).R∉S:=by assumption
     (conv=>whnf)
     refine CE (i+1,ins S (nth sp i).R) ⟨(by simp only;omega),(by simp only;unfold ins;rw[C9 a,q,V5,c];simp),(cW c h l),(by simp only;unfold ins;rw[C9 a];exact lO n a)⟩ (by simp only;omega) ?_
     (exact wA))
 obtain rfl:i=sp.length:=ω
 rw[C5]at h q
 repeat'(first|refine gE ?_|fail)
 (conv=>whnf)
 refine CF (ι:=Nat × List Int) (λi=>[(5,.H .box [.m (gf i.2)]),(6,.fn 239 [5]),(31,.H .one (cx .X la)),(32,.H .one [I (la.length)]),(33,.H .one [I ((i.1:Nat):Int)])]) (λi=>i.1<=la.length/\i.2=pgs sp (la.take i.1)/\(la.take i.1).all bJ=true/\i.2.Nodup) (λi=>la.length - i.1) ((0,S)) ?_ (⟨W0 _,by rw[q];unfold pgs;simp,rfl,n⟩) λi p=>?_
 ·exact wB
 obtain⟨i,S2⟩:=i;obtain⟨C,d,b,e⟩:=p;simp only at C d b e |-;by_cases w:i<la.length
 ·have c:=ao w
  have o:=ss (nth la i);cases l:bJ (nth la i)<;>rw[l]at o
  ·repeat'(first|refine gE ?_|(conv=>whnf);first|with_reducible refine CD (aa c) ?_|refine C8 o ?_)
   exact X0 (λz=>[B z]) ((pS c l).symm)
  have H:=aO l
  repeat'(first|refine gE ?_|(conv=>whnf);first|with_reducible refine CD (aa c) ?_|refine C8 o ?_)
  (conv=>whnf)
  refine CF (ι:=Nat × List Int) (λk=>[(5,.H .box [.m (gf k.2)]),(6,.fn 239 [5]),(10,.H .box (aB.enc .X (nth la i))),(11,.H .one [I ((k.1:Nat):Int)]),(31,.H .one (cx .X la)),(32,.H .one [I (la.length)]),(33,.H .one [I ((i:Nat):Int)])]) (λk=>k.1<=(nth la i).a4.toNat/\k.2=S2++lpgs (nth la i) k.1/\k.2.Nodup) (λk=>(nth la i).a4.toNat - k.1) ((0,S2)) ?_ (⟨W0 _,by simp[lpgs],e⟩) λk E=>?_
  ·exact wB
  obtain⟨k,r⟩:=k;obtain⟨E,j,g⟩:=E;simp only at E j g |-;by_cases J:k<(nth la i).a4.toNat
  ·repeat'(first|refine gE ?_|(conv=>whnf);first|with_reducible refine Bf.D (λy=>?_) (λy=>?_)|refine CK (Mb r _) (.inl rfl) ?_)
   all_goals first
    | exact X0 (λz=>[B z]) ((kY (S:=r) (by rw[j,d];exact AQ c J) (by grind)).symm)
    |(have a:(nth la i).R+(k:Nat)∉r:=by assumption
      (conv=>whnf)
      refine CE (k+1,ins r ((nth la i).R+(k:Nat))) ⟨(by simp only;omega),(by simp only;unfold ins;rw[C9 a,j,lr,W5]),(by simp only;unfold ins;rw[C9 a];exact lO g a)⟩ (by simp only;omega) ?_
      (exact wA))
  obtain rfl:k=(nth la i).a4.toNat:=ω
  repeat'(first|refine gE ?_|fail)
  ((conv=>whnf);refine CE (i+1,r) ⟨(by simp only;omega),(by simp only;rw[j,d,<-oV sp c]),(cW c b l),g⟩ (by simp only;omega) ?_;(exact wB))
 obtain rfl:i=la.length:=ω
 rw[C5]at b d
 repeat'(first|refine gE ?_|fail)
 exact X0 (λz=>[B z]) ((tJ h b (by rw[<-d];exact e)).symm)
def aF{s:ax}(h:bg s=true):0<=s.R/\s.R<=31/\0<=s.d/\s.d<=3:=by
 unfold bg at h;simp only[C0]at h;omega
def bP{k:Int}(h:0<=k/\k<=3):csz k=1\/csz k=2\/csz k=4\/csz k=8:=by
 obtain rfl|rfl|rfl|rfl:k=0\/k=1\/k=2\/k=3:=ω
 all_goals decide
def ko{x y:Int}(h:0<=x):x.tdiv y=x / y:=Int.tdiv_eq_ediv_of_nonneg h
def dM{x y:Int}(h:0<=x):x.tmod y=x % y:=Int.tmod_eq_emod_of_nonneg h
def S2(p:Int × Int):List C:=[I p.1,I p.2]
def Bo{a b:Int}{p:Int × Int}(h:(a,b)=p):[I a,I b]=S2 p:=by subst h;rfl
def vR(s:ax)(a:Int)(k:nq a):ar Tryz.prog 476 false [.val (some 3) (ax.enc .X s),.val none [I a]] (.tup [none,none]) (S2 (jf s a)):=by
 have g:=gM s;have l:=ef s.d;obtain⟨n,o⟩:=k;cases b:bg s<;>rw[b]at g
 ·refine fO 33 [(4,12,[23,24,25,26,27,28,29,30,31,32,4,5])] Tryz.func476 rfl ?_ (.inr ⟨trivial,trivial,trivial⟩)
  repeat'(first|refine gP ?_|(conv=>whnf);refine C8 g ?_)
  exact Bo (by unfold jf cy;rw[b];rfl)
 have h:=aF b;have i:=bP ⟨h.2.2.1,h.2.2.2⟩;by_cases c:16*s.R<=a/\a<=16*s.R+15
 ·have j:0<=a:=ω
  refine fO 33 [(4,12,[23,24,25,26,27,28,29,30,31,32,4,5])] Tryz.func476 rfl ?_ (.inr ⟨trivial,trivial,trivial⟩)
  repeat'(first|refine gE ?_|(conv=>whnf);first|with_reducible refine Bf.N (λd=>?_) (λd=>?_)|refine CO (by decide) ?_|refine CO ω ?_|refine CN ((X0 _ (ko j)).trans (eP ω ω)) ?_|refine CR (dM j) ?_|refine CN ((X0 _ (ko ω)).trans (eP (by rcases i with e|e|e|e<;>rw[e]<;>omega) (by rcases i with e|e|e|e<;>rw[e]<;>omega))) ?_|refine CR (dM ω) ?_)
  all_goals first
   |(exfalso;omega)
   |exact Bo (by unfold jf cy;rw[b,O0 c];show _=((a - 16*s.R) / csz s.d,(a - 16*s.R) % csz s.d);rw[show a % 16=a - 16*s.R by omega])
 refine fO 33 [(4,12,[23,24,25,26,27,28,29,30,31,32,4,5])] Tryz.func476 rfl ?_ (.inr ⟨trivial,trivial,trivial⟩)
 repeat'(first|refine gP ?_|(conv=>whnf);first|with_reducible (first|refine Bf.D (λd=>?_) (λd=>?_)|refine Bf.N (λd=>?_) (λd=>?_))|refine CO (by decide) ?_|refine CN ((X0 _ (ko ω)).trans (eP ω ω)) ?_)
 all_goals first
  |exact Bo (by unfold jf cy;rw[b,U0 c];rfl)
  |(exfalso;omega)
def EG(s:ax)(a:Int):ar Tryz.prog 260 false [.val (some 3) (ax.enc .X s),.val none [I a]] (.tup [none,none]) (S2 (jf s a)):=by
 have d:=iQ s;have j:=ee s.d;cases b:bg s<;>rw[b]at d
 ·refine fO 38 [(4,12,[28,29,30,31,32,33,34,35,36,37,4,5])] Tryz.func260 rfl ?_ (.inr ⟨trivial,trivial,trivial⟩)
  repeat'(first|refine gP ?_|(conv=>whnf);refine C8 d ?_)
  exact Bo (by unfold jf cy;rw[b];rfl)
 have h:=aF b;have i:=bP ⟨h.2.2.1,h.2.2.2⟩;by_cases c:16*s.R<=a/\a<=16*s.R+15
 ·refine fO 38 [(4,12,[28,29,30,31,32,33,34,35,36,37,4,5])] Tryz.func260 rfl ?_ (.inr ⟨trivial,trivial,trivial⟩)
  repeat'(first|refine gE ?_|(conv=>whnf);first|refine C8 (aM _ _ _) ?_|refine CO ω ?_|refine CN ((X0 _ (ko ω)).trans (eP (by rcases i with e|e|e|e<;>rw[e]<;>omega) (by rcases i with e|e|e|e<;>rw[e]<;>omega))) ?_|refine CR (dM ω) ?_)
  all_goals exact Bo (by unfold jf cy;rw[b,O0 c];show _=((a - 16*s.R) / csz s.d,(a - 16*s.R) % csz s.d);rw[show a - s.R*16=a - 16*s.R by omega])
 refine fO 38 [(4,12,[28,29,30,31,32,33,34,35,36,37,4,5])] Tryz.func260 rfl ?_ (.inr ⟨trivial,trivial,trivial⟩)
 repeat'(first|refine gE ?_|(conv=>whnf);refine C8 (aM _ _ _) ?_)
 all_goals exact Bo (by unfold jf cy;rw[b,U0 c];rfl)
def qd(b i:Int):ar Tryz.prog 539 false [.val none [I b],.val none [I i]] .one [B (decide (0<=b/\0<=i/\i<=15))]:=by
 refine fO 11 [] Tryz.func539 rfl ?_
 repeat'(first|refine gP ?_|(conv=>whnf);first|with_reducible refine Bf.D (λa=>?_) (λa=>?_)|refine C8 (aH _ 0 15) ?_)
 all_goals exact X0 (λz=>[B z]) ((by first|(symm;exact U0 ω)|exact decide_eq_decide.2 ω))
def AR(b i:Int):ar Tryz.prog 396 false [.val none [I b],.val none [I i]] .one [B (decide (0<=b/\0<=i/\i<=15))]:=by
 refine fO 11 [] Tryz.func396 rfl ?_
 repeat'(first|refine gP ?_|(conv=>whnf);first|with_reducible refine Bf.D (λa=>?_) (λa=>?_)|refine C8 (aM _ 0 15) ?_)
 all_goals exact X0 (λz=>[B z]) ((by first|(symm;exact U0 ω)|exact decide_eq_decide.2 ω))
def NH{b i:Int}(a:0<=b/\b<=9223372036854775807)(e:0<=i/\i<=15):b.fdiv (2 ^ min i.toNat IntKind.i64.bits)=b / 2 ^ i.toNat/\0<=b / 2 ^ i.toNat/\b / 2 ^ i.toNat<=9223372036854775807:=by
 have d:min i.toNat IntKind.i64.bits=i.toNat:=Nat.min_eq_left (show i.toNat<=64 by omega);rw[d];have c:(0:Int)<=2 ^ i.toNat:=Int.pow_nonneg (by decide);refine⟨Int.fdiv_eq_ediv_of_nonneg _ c,Int.ediv_nonneg a.1 c,?_⟩;have:=Int.ediv_le_self (2 ^ i.toNat:Int) a.1;omega
def xf{b i:Int}(a:0<=b)(e:0<=i/\i<=15):((((b / 2 ^ i.toNat).toNat &&& (1:Int).toNat:Nat):Int) == 1)=aU b i:=by
 have c:(0:Int)<=b / 2 ^ i.toNat:=Int.ediv_nonneg a (Int.pow_nonneg (by decide));have d:(b / 2 ^ i.toNat).toNat &&& (1:Int).toNat=(b / 2 ^ i.toNat).toNat % 2:=Nat.and_one_is_mod _;rw[d];unfold aU;generalize b / 2 ^ i.toNat=q at c |-;rw[Y4,beq_iff_eq,C0];omega
def iY(b i:Int)(c:b<=9223372036854775807):ar Tryz.prog 477 false [.val none [I b],.val none [I i]] .one [B (aU b i)]:=by
 by_cases h:0<=b/\0<=i/\i<=15
 ·obtain⟨d,g⟩:=NH (b:=b) (i:=i) ⟨h.1,c⟩ h.2
  have j:IntKind.u64.wrap i=i:=by unfold IntKind.wrap;simp[IntKind.signed,IntKind.bits];omega
  refine fO 16 [] Tryz.func477 rfl ?_
  repeat'(first|refine gE ?_|(conv=>whnf);first|refine C8 (qd _ _) ?_|refine CO ω ?_|refine CN j ?_|refine CR d ?_|refine CN (and64 g ⟨by decide,by decide⟩) ?_)
  all_goals exact X0 (λz=>[B z]) ((xf h.1 h.2))
 refine fO 16 [] Tryz.func477 rfl ?_
 repeat'(first|refine gE ?_|(conv=>whnf);refine C8 (qd _ _) ?_)
 all_goals exact X0 (λz=>[B z]) ((by unfold aU;symm;exact U0 λe=>h ⟨e.1,e.2.1,e.2.2.1⟩))
def kR(b i:Int)(c:b<=9223372036854775807):ar Tryz.prog 261 false [.val none [I b],.val none [I i]] .one [B (aU b i)]:=by
 by_cases h:0<=b/\0<=i/\i<=15
 ·obtain⟨d,g⟩:=NH (b:=b) (i:=i) ⟨h.1,c⟩ h.2
  refine fO 15 [] Tryz.func261 rfl ?_
  repeat'(first|refine gE ?_|(conv=>whnf);first|refine C8 (AR _ _) ?_|refine CO ω ?_|refine CR d ?_|refine CN (and64 g ⟨by decide,by decide⟩) ?_)
  all_goals exact X0 (λz=>[B z]) ((xf h.1 h.2))
 refine fO 15 [] Tryz.func261 rfl ?_
 repeat'(first|refine gE ?_|(conv=>whnf);refine C8 (AR _ _) ?_)
 all_goals exact X0 (λz=>[B z]) ((by unfold aU;symm;exact U0 λe=>h ⟨e.1,e.2.1,e.2.2.1⟩))
def cS{l:aB}(h:bJ l=true):9<=l.u/\l.u<=1000/\0<=l.R/\l.R<=31:=by
 unfold bJ at h;simp only[C0]at h;omega
def qS(l:aB)(a:Int):ar Tryz.prog 478 false [.val (some 3) (aB.enc .X l),.val none [I a]] .one [B (bq l a)]:=by
 have c:=nD l;cases b:bJ l<;>rw[b]at c
 ·refine fO 24 [] Tryz.func478 rfl ?_
  repeat'(first|refine gP ?_|(conv=>whnf);refine C8 c ?_)
  exact X0 (λz=>[B z]) ((by unfold bq;rw[b];rfl))
 have e:=cS b;refine fO 24 [] Tryz.func478 rfl ?_
 repeat'(first|refine gP ?_|(conv=>whnf);with_reducible refine Bf.D (λd=>?_) (λd=>?_))
 all_goals exact X0 (λz=>[B z]) ((by unfold bq;rw[b,Bool.true_and];first|(symm;exact U0 ω)|exact decide_eq_decide.2 ω))
def qO(l:aB)(a:Int):ar Tryz.prog 259 false [.val (some 3) (aB.enc .X l),.val none [I a]] .one [B (bq l a)]:=by
 have c:=ss l;cases b:bJ l<;>rw[b]at c
 ·refine fO 21 [] Tryz.func259 rfl ?_
  repeat'(first|refine gP ?_|(conv=>whnf);refine C8 c ?_)
  exact X0 (λz=>[B z]) ((by unfold bq;rw[b];rfl))
 have e:=cS b;refine fO 21 [] Tryz.func259 rfl ?_
 repeat'(first|refine gP ?_|(conv=>whnf);refine C8 (aM _ _ _) ?_)
 all_goals exact X0 (λz=>[B z]) ((by unfold bq;rw[b,Bool.true_and];exact decide_eq_decide.2 ω))
def uK(l:aB)(a:Int)(h:bq l a=true):ar Tryz.prog 479 false [.val (some 3) (aB.enc .X l),.val none [I a]] .one [I (a - 16*l.R)]:=by
 have b:=qS l a;rw[h]at b;unfold bq at h;simp only[I0,C0]at h;have c:=cS h.1;refine fO 14 [] Tryz.func479 rfl ?_
 repeat'(first|refine gP ?_|(conv=>whnf);refine C8 b ?_)
 exact X0 (λz=>[I z]) ω
def uQ(l:aB)(a:Int)(h:bq l a=true):ar Tryz.prog 262 false [.val (some 3) (aB.enc .X l),.val none [I a]] .one [I (a - 16*l.R)]:=by
 have b:=qO l a;rw[h]at b;unfold bq at h;simp only[I0,C0]at h;have c:=cS h.1;refine fO 14 [] Tryz.func262 rfl ?_
 repeat'(first|refine gP ?_|(conv=>whnf);refine C8 b ?_)
 exact X0 (λz=>[I z]) ω
def qx{m:aK}{i:Nat}(a:i<m.U.length)(h:hC m i=false):bO m=false:=by
 unfold bO;rw[cB a h];simp
def xg{m:aK}(h:¬(1<=m.U.length/\m.U.length<=4/\m.a1.length=m.U.length)):bO m=false:=by
 unfold bO;rw[U0 h];rfl
def za{m:aK}(h1:1<=m.U.length/\m.U.length<=4/\m.a1.length=m.U.length)(a:df m.U.length (hC m)=true):bO m=decide (bx m m.U.length<=30):=by
 unfold bO;rw[O0 h1,a];rfl
def mj(m:aK)(h:aK.sml m):ar Tryz.prog 145 false [.val (some 2) (aK.enc .X m)] .one [B (bO m)]:=by
 have u:m.U.length<=1048576:=h.1.1;have w:m.a1.length<=1048576:=h.2.1;by_cases n:1<=m.U.length/\m.U.length<=4/\m.a1.length=m.U.length
 ·refine fO 92 [(19,15,[75,76,77,78,79,80,81,82,83,84,85,86,87,88,89])] Tryz.func145 rfl ?_
  repeat'(first|refine gB ?_|(conv=>whnf);refine C8 (aH _ 1 4) ?_)
  (conv=>whnf)
  refine CF (ι:=Nat) (λi=>[(1,.H .box (aK.enc .X m)),(3,.H .one [I (m.U.length)]),(4,.H .one [I (bx m i)]),(5,.H .one [I ((i:Nat):Int)])]) (λi=>i<=m.U.length/\df i (hC m)=true/\0<=bx m i/\bx m i<=2097152*i) (λi=>m.U.length - i) (0) ?_ (⟨W0 _,rfl,by simp[bx],by simp[bx]⟩) λi o=>?_
  ·exact wB
  obtain⟨o,p,G,H⟩:=o;by_cases j:i<m.U.length
  ·have l:=ao j
   have q:=ao (xs:=m.a1) (i:=i) ω;have y:(nth m.U i).length<=1048576:=(h.1.2 _ (am j)).1;have C:(nth m.a1 i).length<=1048576:=h.2.2 _ (am ω)
   repeat'(first|refine gE ?_|fail)
   (conv=>whnf)
   refine CF (ι:=Nat) (λk=>[(1,.H .box (aK.enc .X m)),(3,.H .one [I (m.U.length)]),(4,.H .one [I (bx m i)]),(5,.H .one [I ((i:Nat):Int)]),(6,.H .one [I ((k:Nat):Int)])]) (λk=>k<=(nth m.U i).length/\((nth m.U i).take k).all (nR m.U.length)=true) (λk=>(nth m.U i).length - k) (0) ?_ (⟨W0 _,rfl⟩) λk r=>?_
   ·exact wB
   obtain⟨r,t⟩:=r;by_cases E:k<(nth m.U i).length
   ·have c:=ao E
    repeat'(first|refine gE ?_|(conv=>whnf);first|with_reducible refine Bf.D (λa=>?_) (λa=>?_)|refine C8 (aH _ 0 _) ?_)
    all_goals first
     | exact X0 (λz=>[B z]) ((qx j (by unfold hC;rw[fo c (by unfold nR;exact U0 ω)];rfl)).symm)
     | ((conv=>whnf);refine CE (k+1) ⟨ω,cW c t (by unfold nR;exact O0 ω)⟩ ω ?_;(exact wB))
   have F:=im ω t
   repeat'(first|refine gE ?_|(conv=>whnf);with_reducible refine CD (aa l) ?_)
   (conv=>whnf)
   refine CF (ι:=Nat) (λb=>[(1,.H .box (aK.enc .X m)),(3,.H .one [I (m.U.length)]),(4,.H .one [I (bx m i)]),(5,.H .one [I ((i:Nat):Int)]),(8,.H .one [I ((b:Nat):Int)])]) (λb=>b<=(nth m.a1 i).length/\((nth m.a1 i).take b).all PR=true) (λb=>(nth m.a1 i).length - b) (0) ?_ (⟨W0 _,rfl⟩) λb e=>?_
   ·exact wB
   obtain⟨e,ak2⟩:=e;by_cases lk2:b<(nth m.a1 i).length
   ·have c:=ao lk2
    repeat'(first|refine gE ?_|(conv=>whnf);with_reducible refine Bf.D (λa=>?_) (λa=>?_))
    all_goals first
     | exact X0 (λz=>[B z]) ((qx j (by unfold hC;rw[fo c (by unfold PR;exact U0 ω)];simp)).symm)
     | ((conv=>whnf);refine CE (b+1) ⟨ω,cW c ak2 (by unfold PR;exact O0 ω)⟩ ω ?_;(exact wB))
   have ae2:=im ω ak2;have g:bx m (i+1)=bx m i+((nth m.U i).length+(nth m.a1 i).length):=rfl;have d:bx m (i+1)=bx m i+(nth m.U i).length+(nth m.a1 i).length:=by rw[g];omega
   repeat'(first|refine gE ?_|(conv=>whnf);first|with_reducible (first|refine CD (aa l) ?_|refine CD (aa q) ?_))
   ((conv=>whnf);refine CE (i+1) ⟨ω,bU p (by unfold hC;rw[F,ae2];rfl),ω,ω⟩ ω ?_)
   rw[d];exact wB
  obtain rfl:i=m.U.length:=ω
  repeat'(first|refine gE ?_|fail)
  exact X0 (λz=>[B z]) ((za n p).symm)
 refine fO 92 [(19,15,[75,76,77,78,79,80,81,82,83,84,85,86,87,88,89])] Tryz.func145 rfl ?_
 repeat'(first|refine gP ?_|(conv=>whnf);first|with_reducible (first|refine Bf.D (λa=>?_) (λa=>?_)|refine Bf.N (λa=>?_) (λa=>?_))|refine C8 (aH _ 1 4) ?_)
 all_goals first
  | exact X0 (λz=>[B z]) ((xg n).symm)
  |(exfalso;omega)
def vN(m:aK)(g:aK.sml m):ar Tryz.prog 75 false [.val (some 2) (aK.enc .X m)] .one [B (bO m)]:=by
 have t:m.U.length<=1048576:=g.1.1;have u:m.a1.length<=1048576:=g.2.1;by_cases n:1<=m.U.length/\m.U.length<=4/\m.a1.length=m.U.length
 ·refine fO 82 [(20,15,[64,65,66,67,68,69,70,71,72,73,74,75,76,77,78])] Tryz.func75 rfl ?_
  repeat'(first|refine gB ?_|(conv=>whnf);refine C8 (aM _ 1 4) ?_)
  (conv=>whnf)
  refine CF (ι:=Nat) (λi=>[(1,.H .box (aK.enc .X m)),(3,.H .one [I (m.U.length)]),(4,.H .one [I (bx m i)]),(25,.H .one [I (m.U.length)]),(26,.H .one [I ((i:Nat):Int)])]) (λi=>i<=m.U.length/\df i (hC m)=true/\0<=bx m i/\bx m i<=2097152*i) (λi=>m.U.length - i) (0) ?_ (⟨W0 _,rfl,by simp[bx],by simp[bx]⟩) λi o=>?_
  ·exact wB
  obtain⟨o,p,F,G⟩:=o;by_cases h:i<m.U.length
  ·have j:=ao h
   have l:=ao (xs:=m.a1) (i:=i) ω;have w:(nth m.U i).length<=1048576:=(g.1.2 _ (am h)).1;have y:(nth m.a1 i).length<=1048576:=g.2.2 _ (am ω)
   repeat'(first|refine gE ?_|(conv=>whnf);with_reducible refine CD (aa j) ?_)
   (conv=>whnf)
   refine CF (ι:=Nat) (λk=>[(1,.H .box (aK.enc .X m)),(3,.H .one [I (m.U.length)]),(4,.H .one [I (bx m i)]),(5,.H .one [I ((i:Nat):Int)]),(25,.H .one [I (m.U.length)]),(26,.H .one [I ((i:Nat):Int)]),(33,.H .one (cN .X (nth m.U i))),(34,.H .one [I ((nth m.U i).length)]),(35,.H .one [I ((k:Nat):Int)])]) (λk=>k<=(nth m.U i).length/\((nth m.U i).take k).all (nR m.U.length)=true) (λk=>(nth m.U i).length - k) (0) ?_ (⟨W0 _,rfl⟩) λk q=>?_
   ·exact wB
   obtain⟨q,r⟩:=q;by_cases C:k<(nth m.U i).length
   ·have c:=ao C
    repeat'(first|refine gE ?_|(conv=>whnf);first|with_reducible refine Bf.D (λa=>?_) (λa=>?_)|refine C8 (aM _ 0 _) ?_)
    all_goals first
     | exact X0 (λz=>[B z]) ((qx h (by unfold hC;rw[fo c (by unfold nR;exact U0 ω)];rfl)).symm)
     | ((conv=>whnf);refine CE (k+1) ⟨ω,cW c r (by unfold nR;exact O0 ω)⟩ ω ?_;(exact wB))
   have E:=im ω r
   repeat'(first|refine gE ?_|(conv=>whnf);first|with_reducible (first|refine CD (aa j) ?_|refine CD (aa l) ?_))
   (conv=>whnf)
   refine CF (ι:=Nat) (λb=>[(1,.H .box (aK.enc .X m)),(3,.H .one [I (m.U.length)]),(4,.H .one [I (bx m i)]),(5,.H .one [I ((i:Nat):Int)]),(25,.H .one [I (m.U.length)]),(26,.H .one [I ((i:Nat):Int)]),(55,.H .one (aD .X (nth m.a1 i))),(56,.H .one [I ((nth m.a1 i).length)]),(57,.H .one [I ((b:Nat):Int)])]) (λb=>b<=(nth m.a1 i).length/\((nth m.a1 i).take b).all PR=true) (λb=>(nth m.a1 i).length - b) (0) ?_ (⟨W0 _,rfl⟩) λb d=>?_
   ·exact wB
   obtain⟨d,ak2⟩:=d;by_cases lk2:b<(nth m.a1 i).length
   ·have c:=ao lk2
    repeat'(first|refine gE ?_|(conv=>whnf);with_reducible refine Bf.D (λa=>?_) (λa=>?_))
    all_goals first
     | exact X0 (λz=>[B z]) ((qx h (by unfold hC;rw[fo c (by unfold PR;exact U0 ω)];simp)).symm)
     | ((conv=>whnf);refine CE (b+1) ⟨ω,cW c ak2 (by unfold PR;exact O0 ω)⟩ ω ?_;(exact wB))
   have ae2:=im ω ak2;have e:bx m (i+1)=bx m i+((nth m.U i).length+(nth m.a1 i).length):=rfl
   repeat'(first|refine gE ?_|(conv=>whnf);first|with_reducible (first|refine CD (aa j) ?_|refine CD (aa l) ?_))
   ((conv=>whnf);refine CE (i+1) ⟨ω,bU p (by unfold hC;rw[E,ae2];rfl),ω,ω⟩ ω ?_)
   rw[e];exact wB
  obtain rfl:i=m.U.length:=ω
  repeat'(first|refine gE ?_|fail)
  exact X0 (λz=>[B z]) ((za n p).symm)
 refine fO 82 [(20,15,[64,65,66,67,68,69,70,71,72,73,74,75,76,77,78])] Tryz.func75 rfl ?_
 repeat'(first|refine gP ?_|(conv=>whnf);first|with_reducible (first|refine Bf.D (λa=>?_) (λa=>?_)|refine Bf.N (λa=>?_) (λa=>?_))|refine C8 (aM _ 1 4) ?_)
 all_goals first
  | exact X0 (λz=>[B z]) ((xg n).symm)
  |(exfalso;omega)
def B3{s:ax}{a:Int}(h:cy s a=false):S2 (jf s a)=[I (-1),I (-1)]:=by
 unfold jf;rw[h];rfl
def yC{s:ax}{a:Int}(h:cy s a=true):S2 (jf s a)=[I ((a - 16*s.R) / csz s.d),I ((a - 16*s.R) % csz s.d)]:=by
 unfold jf;rw[h];rfl
def so{s:ax}{a:Int}(h:cy s a=true):bg s=true/\0<=(a - 16*s.R) / csz s.d/\(a - 16*s.R) / csz s.d<=15:=by
 unfold cy at h;simp only[I0,C0]at h;have b:=aF h.1;refine⟨h.1,?_⟩;rcases bP ⟨b.2.2.1,b.2.2.2⟩ with e|e|e|e<;>rw[e]<;>omega
def oc{sp:List ax}{la:List aB}{a:Int}{i:Nat}(b:i<sp.length)(h:cy (nth sp i) a=true)(c:∀(j:Nat)(z:ax),j<i->sp[j]? = some z->cy z a=false):denotes sp la a=oJ i (nth sp i) a:=by
 unfold denotes;rw[w5 (pr:=(cy · a)) (ao b) h c]
def m8{sp:List ax}{la:List aB}{a:Int}{i n:Nat}(b:sp.length<=n)(c:∀(j:Nat)(z:ax),j<n->sp[j]? = some z->cy z a=false)(d:i<la.length)(h:bq (nth la i) a=true)(e:∀(j:Nat)(z:aB),j<i->la[j]? = some z->bq z a=false) :
  denotes sp la a = ⟨3,i,0,a - 16*(nth la i).R⟩:=by
 unfold denotes;rw[yx (pr:=(cy · a)) b c,w5 (pr:=(bq · a)) (ao d) h e]
def xN{sp:List ax}{la:List aB}{a:Int}{n k:Nat}(b:sp.length<=n)(c:∀(j:Nat)(z:ax),j<n->sp[j]? = some z->cy z a=false)(d:la.length<=k)(e:∀(j:Nat)(z:aB),j<k->la[j]? = some z->bq z a=false):denotes sp la a = ⟨0,0,0,0⟩:=by
 unfold denotes;rw[yx (pr:=(cy · a)) b c,yx (pr:=(bq · a)) d e]
def n7(sp:List ax)(la:List aB)(a:Int)(e:dS sp)(g:dQ la)(h:bo sp la=true)(C:nq a):ar Tryz.prog 376 false [.val none (bX .X sp),.val none (cx .X la),.val none [I a]] .agg (jN.enc .own (denotes sp la a)):=by
 have E:=e.1;have F:=g.1;have q:=my sp la e g;rw[h]at q;refine fO 67 [] Tryz.func376 rfl ?_ (.inr (jN.enc_fr _))
 repeat'(first|refine gP ?_|(conv=>whnf);refine C8 q ?_)
 (conv=>whnf)
 refine CF (ι:=Nat) (λi=>[(0,.H .one (bX .X sp)),(1,.H .one (cx .X la)),(2,.H .one [I (a)]),(6,.H .box ([I 0,I 0,I 0,I 0])),(7,.H .one [I ((i:Nat):Int)])]) (λi=>i<=sp.length/\∀(j:Nat)(z:ax),j<i->sp[j]? = some z->cy z a=false) (λi=>sp.length - i) (0) ?_ (⟨W0 _,λj z G=>ω⟩) λi r=>?_
 ·exact wB
 obtain⟨r,l⟩:=r;by_cases t:i<sp.length
 ·have d:=ao t
  have c:=vR (nth sp i) a C;cases b:cy (nth sp i) a with
  | false=>
   rw[B3 b]at c
   repeat'(first|refine gE ?_|(conv=>whnf);first|with_reducible (first|refine CD (aa d) ?_|refine Bf.D (λo=>?_) (λo=>?_))|refine C8 c ?_)
   ((conv=>whnf);refine CE (i+1) ⟨ω,dz (pr:=(cy · a)) d b l⟩ ω ?_;(exact wB))
  | true=>
   rw[yC b]at c;obtain⟨H,J,K⟩:=so b;have u:=iY (nth sp i).b2 ((a - 16*(nth sp i).R) / csz (nth sp i).d) (f9 H).2;cases w:aU (nth sp i).b2 ((a - 16*(nth sp i).R) / csz (nth sp i).d)<;>rw[w]at u
   all_goals
    repeat'(first|refine gE ?_|(conv=>whnf);first|with_reducible (first|refine CD (aa d) ?_|refine Bf.D (λo=>?_) (λo=>?_))|refine C8 c ?_|refine C8 u ?_)
    all_goals(rw[oc t b l];unfold oJ;rw[w];rfl)
 repeat'(first|refine gE ?_|fail)
 (conv=>whnf)
 refine CF (ι:=Nat) (λk=>[(1,.H .one (cx .X la)),(2,.H .one [I (a)]),(6,.H .box ([I 0,I 0,I 0,I 0])),(11,.H .one [I ((k:Nat):Int)])]) (λk=>k<=la.length/\∀(j:Nat)(z:aB),j<k->la[j]? = some z->bq z a=false) (λk=>la.length - k) (0) ?_ (⟨W0 _,λj z G=>ω⟩) λk y=>?_
 ·exact wB
 obtain⟨y,p⟩:=y;by_cases B:k<la.length
 ·have d:=ao B
  have c:=qS (nth la k) a;cases b:bq (nth la k) a<;>rw[b]at c
  ·repeat'(first|refine gE ?_|(conv=>whnf);first|with_reducible refine CD (aa d) ?_|refine C8 c ?_)
   ((conv=>whnf);refine CE (k+1) ⟨ω,dz (pr:=(bq · a)) d b p⟩ ω ?_;(exact wB))
  repeat'(first|refine gE ?_|(conv=>whnf);refine C8 (uK (nth la k) a b) ?_)
  rw[m8 (n:=i) ω l B b p];rfl
 repeat'(first|refine gE ?_|fail)
 rw[xN (n:=i) (k:=k) ω l ω p];rfl
def tE(sp:List ax)(la:List aB)(a:Int)(g:dS sp)(h:dQ la):ar Tryz.prog 97 false [.val none (bX .X sp),.val none (cx .X la),.val none [I a]] .agg (jN.enc .own (denotes sp la a)):=by
 have y:=g.1;have B:=h.1;refine fO 56 [] Tryz.func97 rfl ?_ (.inr (jN.enc_fr _))
 repeat'(first|refine gP ?_|fail)
 (conv=>whnf)
 refine CF (ι:=Nat) (λi=>[(1,.H .one (cx .X la)),(2,.H .one [I (a)]),(6,.H .box ([I 0,I 0,I 0,I 0])),(14,.H .one (bX .X sp)),(15,.H .one [I (sp.length)]),(16,.H .one [I ((i:Nat):Int)])]) (λi=>i<=sp.length/\∀(j:Nat)(z:ax),j<i->sp[j]? = some z->cy z a=false) (λi=>sp.length - i) (0) ?_ (⟨W0 _,λj z C=>ω⟩) λi p=>?_
 ·exact wB
 obtain⟨p,e⟩:=p;by_cases q:i<sp.length
 ·have d:=ao q
  have c:=EG (nth sp i) a;cases b:cy (nth sp i) a with
  | false=>
   rw[B3 b]at c
   repeat'(first|refine gE ?_|(conv=>whnf);first|with_reducible (first|refine CD (aa d) ?_|refine Bf.D (λl=>?_) (λl=>?_))|refine C8 c ?_)
   ((conv=>whnf);refine CE (i+1) ⟨ω,dz (pr:=(cy · a)) d b e⟩ ω ?_;(exact wB))
  | true=>
   rw[yC b]at c;obtain⟨E,F,G⟩:=so b;have r:=kR (nth sp i).b2 ((a - 16*(nth sp i).R) / csz (nth sp i).d) (f9 E).2;cases t:aU (nth sp i).b2 ((a - 16*(nth sp i).R) / csz (nth sp i).d)<;>rw[t]at r
   all_goals
    repeat'(first|refine gE ?_|(conv=>whnf);first|with_reducible (first|refine CD (aa d) ?_|refine Bf.D (λl=>?_) (λl=>?_))|refine C8 c ?_|refine C8 r ?_)
    all_goals(rw[oc q b e];unfold oJ;rw[t];rfl)
 repeat'(first|refine gE ?_|fail)
 (conv=>whnf)
 refine CF (ι:=Nat) (λk=>[(2,.H .one [I (a)]),(6,.H .box ([I 0,I 0,I 0,I 0])),(39,.H .one (cx .X la)),(40,.H .one [I (la.length)]),(41,.H .one [I ((k:Nat):Int)])]) (λk=>k<=la.length/\∀(j:Nat)(z:aB),j<k->la[j]? = some z->bq z a=false) (λk=>la.length - k) (0) ?_ (⟨W0 _,λj z C=>ω⟩) λk u=>?_
 ·exact wB
 obtain⟨u,o⟩:=u;by_cases w:k<la.length
 ·have d:=ao w
  have c:=qO (nth la k) a;cases b:bq (nth la k) a<;>rw[b]at c
  ·repeat'(first|refine gE ?_|(conv=>whnf);first|with_reducible refine CD (aa d) ?_|refine C8 c ?_)
   ((conv=>whnf);refine CE (k+1) ⟨ω,dz (pr:=(bq · a)) d b o⟩ ω ?_;(exact wB))
  repeat'(first|refine gE ?_|(conv=>whnf);refine C8 (uQ (nth la k) a b) ?_)
  rw[m8 (n:=i) ω e w b o];rfl
 repeat'(first|refine gE ?_|fail)
 rw[xN (n:=i) (k:=k) ω e ω o];rfl
section
variable{α:Type}
def Al(ag:Option Nat)(e:α->List C)(pr:α->Bool)(xs:List α):List (Option Nat × List C)->Kd->List C->Prop:=λL k rcs=>∃x,x∈xs/\L=[(ag,e x)]/\k=.one/\rcs=[B (pr x)]
end
def wv(xs:List aA)(pr:aA->Bool)(n:xs.length<=9223372036854775807):ar Tryz.prog 490 false [.val none (bN .X xs),.fn (oH Tryz.prog (Al (some 2) (aA.enc .X) pr xs))] .one [I (dH pr xs)]:=by
 refine fO 19 [] Tryz.func490 rfl ?_
 repeat'(first|refine gP ?_|fail)
 (conv=>whnf)
 refine CF (ι:=Nat) (λi=>[(0,.H .one (bN .X xs)),(1,.fv (oH Tryz.prog (Al (some 2) (aA.enc .X) pr xs))),(7,.H .one [I xs.length]),(8,.H .one [I (i:Nat)])]) (λi=>i<=xs.length/\∀(j:Nat)(z:aA),j<i->xs[j]? = some z->pr z=false) (λi=>xs.length - i) 0 ?_ ⟨W0 _,λj z h=>ω⟩ λi e=>?_
 ·exact wB
 obtain⟨e,b⟩:=e;by_cases c:i<xs.length
 ·obtain⟨y,a⟩ : ∃y,xs[i]? = some y:=⟨_,I2 c⟩
  repeat'(first|refine gE ?_|(conv=>whnf);first|refine Fv.mk (k:=.one) (rcs:=[B (pr y)]) ⟨y,Z1 a,rfl,rfl,rfl⟩ ?_|refine Bf.P (λl=>?_) (λl=>?_))
  ·exact X0 (λz=>[I z]) (dI a ‹_› b).symm
  (conv=>whnf)
  refine CE (i+1) ⟨ω,λj z h d=>?_⟩ ω ?_
  ·rcases Nat.lt_or_ge j i with g|g
   ·exact b j z g d
   obtain rfl:j=i:=ω
   rw[a]at d;cases d;assumption
  exact wB
 repeat'(first|refine gE ?_|fail)
 exact X0 (λz=>[I z]) (gv ω b).symm
def ri(xs:List aA)(pr:aA->Bool)(a:xs.length<=9223372036854775807):ar Tryz.prog 390 false [.val none (bN .X xs),.fn (oH Tryz.prog (Al (some 2) (aA.enc .X) pr xs))] .one [B (xs.any pr)]:=by
 refine fO 9 [] Tryz.func390 rfl ?_
 repeat'(first|refine gP ?_|(conv=>whnf);refine C8 (wv xs pr a) ?_)
 exact X0 (λz=>[B z]) (jC pr xs)
def vj(r:aA)(page:Int):ar Tryz.prog 391 false [.val (some 2) (aA.enc .X r),.ptr [I page]] .one [B (rn page r)]:=by
 refine fO 17 [] Tryz.func391 rfl ?_
 repeat'(first|refine gP ?_|(conv=>whnf);first|with_reducible refine Bf.D (λa=>?_) (λa=>?_)|refine CN rfl ?_)
 all_goals exact X0 (λz=>[B z]) (by unfold rn;first|(rw[O0 (by assumption:r.At<=page)];simp;done)|(rw[U0 (by assumption:¬r.At<=page)];rfl))
def zV(xs:List aA)(page:Int)(a:xs.length<=9223372036854775807):ar Tryz.prog 243 false [.val none (bN .X xs),.val none [I page]] .one [B (xs.any (rn page))]:=by
 refine fO 8 [] Tryz.func243 rfl ?_
 repeat'(first|refine gP ?_|(conv=>whnf);first|refine Cq.mk (Al (some 2) (aA.enc .X) (rn page) xs) (vj default page).has (λL k rcs b=>?_) ?_|refine C8 (ri xs (rn page) a) ?_)
 ·obtain⟨x,-,rfl,rfl,rfl⟩:=b
  exact vj x page
 rfl
end Go.Proofs.YtecefhjnejfheaaGreat.Ab
