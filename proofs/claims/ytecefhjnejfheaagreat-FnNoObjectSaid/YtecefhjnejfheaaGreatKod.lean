/- The types of the program as the abstract runs see them. Printed by gen_te.py. No condition. -/
import Derived.Test.YtecefhjnejfheaaGreatKoc
import Derived.KernelRfl
import Derived.Test.YtecefhjnejfheaaGreatProg
set_option linter.unusedVariables false
set_option linter.defProp false
set_option linter.unusedSimpArgs false
set_option linter.constructorNameAsVariable false
namespace Go.Proofs.YtecefhjnejfheaaGreat.Ab
open Go.RowKit
def KO:List (Nat × TI)->Nat->Option TI
 | [],_=>none
 | p::l,t=>bif Nat.beq t p.1 then some p.2 else KO l t
def TB(P:Program):List (Nat × TI)->Prop
 | []=>True
 | p::l=>bQ P p.1 p.2/\TB P l
def Gx{P:Program} : ∀{l:List (Nat × TI)},TB P l->∀t i,KO l t=some i->bQ P t i
 | [],_,t,i,h=>by cases h
 | p::l,b,t,i,h=>by
  simp only[KO]at h;cases a:Nat.beq t p.1 with
  | true=>
   rw[a]at h;simp only[cond_true,C1]at h;have:=O2 a;subst this h;exact b.1
  | false=>rw[a]at h;exact Gx b.2 t i h
def ti3:TI:=⟨1,8,[.v (.int .i64 0)],.sc (.int .i64)⟩
abbrev zzA:=ar Tryz.prog
abbrev zzB:=aW Tryz.prog
def tok3:bQ Tryz.prog 3 ti3:=⟨by kernel_rfl,by simp[ti3,aE,Value.oneCell'],⟨Tryz.underlying3,trivial⟩⟩
def ti4:TI:=⟨1,1,[.v (.bool false)],.sc .bool⟩
def tok4:bQ Tryz.prog 4 ti4:=⟨by kernel_rfl,by simp[ti4,aE,Value.oneCell'],⟨Tryz.underlying4,trivial⟩⟩
def ti2:TI:=⟨1,8,[.v (.int .i64 0)],.sc (.int .i64)⟩
def tok2:bQ Tryz.prog 2 ti2:=⟨by kernel_rfl,by simp[ti2,aE,Value.oneCell'],⟨Tryz.underlying2,trivial⟩⟩
def ti5:TI:=⟨1,1,[.v (.int .u8 0)],.sc (.int .u8)⟩
def tok5:bQ Tryz.prog 5 ti5:=⟨by kernel_rfl,by simp[ti5,aE,Value.oneCell'],⟨Tryz.underlying5,trivial⟩⟩
def ti6:TI:=⟨1,1,[.v (.int .u8 0)],.sc (.int .u8)⟩
def tok6:bQ Tryz.prog 6 ti6:=⟨by kernel_rfl,by simp[ti6,aE,Value.oneCell'],⟨Tryz.underlying6,trivial⟩⟩
def ti7:TI:=⟨4,24,[.v (.int .i64 0),.v (.int .i64 0),.v (.bool false),.v (.int .u8 0)],.st [(0,2),(1,3),(2,4),(3,6)]⟩
def tok7:bQ Tryz.prog 7 ti7:=⟨by kernel_rfl,by simp[ti7,aE,Value.oneCell'],⟨_,Tryz.underlying7,rfl⟩⟩
def ti8:TI:=⟨4,24,[.v (.int .i64 0),.v (.int .i64 0),.v (.bool false),.v (.int .u8 0)],.st [(0,2),(1,3),(2,4),(3,6)]⟩
def tok8:bQ Tryz.prog 8 ti8:=⟨by kernel_rfl,by simp[ti8,aE,Value.oneCell'],⟨_,Tryz.underlying8,rfl⟩⟩
def ti9:TI:=⟨1,16,[.v (.string ⟨#[]⟩)],.sc .string⟩
def tok9:bQ Tryz.prog 9 ti9:=⟨by kernel_rfl,by simp[ti9,aE,Value.oneCell'],⟨Tryz.underlying9,trivial⟩⟩
def ti10:TI:=⟨1,16,[.v (.string ⟨#[]⟩)],.sc .string⟩
def tok10:bQ Tryz.prog 10 ti10:=⟨by kernel_rfl,by simp[ti10,aE,Value.oneCell'],⟨Tryz.underlying10,trivial⟩⟩
def ti11:TI:=⟨1,16,[.v (.string ⟨#[]⟩)],.sc .string⟩
def tok11:bQ Tryz.prog 11 ti11:=⟨by kernel_rfl,by simp[ti11,aE,Value.oneCell'],⟨Tryz.underlying11,trivial⟩⟩
def ti12:TI:=⟨1,8,[.v (.int .u64 0)],.sc (.int .u64)⟩
def tok12:bQ Tryz.prog 12 ti12:=⟨by kernel_rfl,by simp[ti12,aE,Value.oneCell'],⟨Tryz.underlying12,trivial⟩⟩
def ti13:TI:=⟨2,24,[.v (.string ⟨#[]⟩),.v (.int .u64 0)],.st [(0,9),(1,12)]⟩
def tok13:bQ Tryz.prog 13 ti13:=⟨by kernel_rfl,by simp[ti13,aE,Value.oneCell'],⟨_,Tryz.underlying13,rfl⟩⟩
def ti14:TI:=⟨2,24,[.v (.string ⟨#[]⟩),.v (.int .u64 0)],.st [(0,9),(1,12)]⟩
def tok14:bQ Tryz.prog 14 ti14:=⟨by kernel_rfl,by simp[ti14,aE,Value.oneCell'],⟨_,Tryz.underlying14,rfl⟩⟩
def ti21:TI:=⟨1,4,[.v (.int .i32 0)],.sc (.int .i32)⟩
def tok21:bQ Tryz.prog 21 ti21:=⟨by kernel_rfl,by simp[ti21,aE,Value.oneCell'],⟨Tryz.underlying21,trivial⟩⟩
def ti22:TI:=⟨1,24,[.z],.sl 5⟩
def tok22:bQ Tryz.prog 22 ti22:=⟨by kernel_rfl,by simp[ti22,aE,Value.oneCell'],Tryz.underlying22⟩
def ti24:TI:=⟨1,24,[.z],.sl 33⟩
def tok24:bQ Tryz.prog 24 ti24:=⟨by kernel_rfl,by simp[ti24,aE,Value.oneCell'],Tryz.underlying24⟩
def ti25:TI:=⟨1,24,[.z],.sl 4⟩
def tok25:bQ Tryz.prog 25 ti25:=⟨by kernel_rfl,by simp[ti25,aE,Value.oneCell'],Tryz.underlying25⟩
def ti26:TI:=⟨2,48,[.z,.z],.st [(0,24),(1,25)]⟩
def tok26:bQ Tryz.prog 26 ti26:=⟨by kernel_rfl,by simp[ti26,aE,Value.oneCell'],⟨_,Tryz.underlying26,rfl⟩⟩
def ti27:TI:=⟨2,48,[.z,.z],.st [(0,24),(1,25)]⟩
def tok27:bQ Tryz.prog 27 ti27:=⟨by kernel_rfl,by simp[ti27,aE,Value.oneCell'],⟨_,Tryz.underlying27,rfl⟩⟩
def ti28:TI:=⟨1,24,[.z],.sl 98⟩
def tok28:bQ Tryz.prog 28 ti28:=⟨by kernel_rfl,by simp[ti28,aE,Value.oneCell'],Tryz.underlying28⟩
def ti29:TI:=⟨1,24,[.z],.st [(0,28)]⟩
def tok29:bQ Tryz.prog 29 ti29:=⟨by kernel_rfl,by simp[ti29,aE,Value.oneCell'],⟨_,Tryz.underlying29,rfl⟩⟩
def ti30:TI:=⟨1,24,[.z],.st [(0,28)]⟩
def tok30:bQ Tryz.prog 30 ti30:=⟨by kernel_rfl,by simp[ti30,aE,Value.oneCell'],⟨_,Tryz.underlying30,rfl⟩⟩
def ti31:TI:=⟨3,72,[.z,.z,.z],.st [(0,27),(2,30)]⟩
def tok31:bQ Tryz.prog 31 ti31:=⟨by kernel_rfl,by simp[ti31,aE,Value.oneCell'],⟨_,Tryz.underlying31,rfl⟩⟩
def ti32:TI:=⟨3,72,[.z,.z,.z],.st [(0,27),(2,30)]⟩
def tok32:bQ Tryz.prog 32 ti32:=⟨by kernel_rfl,by simp[ti32,aE,Value.oneCell'],⟨_,Tryz.underlying32,rfl⟩⟩
def ti33:TI:=⟨1,24,[.z],.sl 3⟩
def tok33:bQ Tryz.prog 33 ti33:=⟨by kernel_rfl,by simp[ti33,aE,Value.oneCell'],Tryz.underlying33⟩
def ti34:TI:=⟨5,104,[.z,.z,.z,.v (.int .i64 0),.z],.st [(0,32),(3,3),(4,33)]⟩
def tok34:bQ Tryz.prog 34 ti34:=⟨by kernel_rfl,by simp[ti34,aE,Value.oneCell'],⟨_,Tryz.underlying34,rfl⟩⟩
def ti35:TI:=⟨5,104,[.z,.z,.z,.v (.int .i64 0),.z],.st [(0,32),(3,3),(4,33)]⟩
def tok35:bQ Tryz.prog 35 ti35:=⟨by kernel_rfl,by simp[ti35,aE,Value.oneCell'],⟨_,Tryz.underlying35,rfl⟩⟩
def ti36:TI:=⟨1,24,[.z],.sl 216⟩
def tok36:bQ Tryz.prog 36 ti36:=⟨by kernel_rfl,by simp[ti36,aE,Value.oneCell'],Tryz.underlying36⟩
def ti37:TI:=⟨1,24,[.z],.sl 167⟩
def tok37:bQ Tryz.prog 37 ti37:=⟨by kernel_rfl,by simp[ti37,aE,Value.oneCell'],Tryz.underlying37⟩
def ti38:TI:=⟨1,24,[.z],.sl 211⟩
def tok38:bQ Tryz.prog 38 ti38:=⟨by kernel_rfl,by simp[ti38,aE,Value.oneCell'],Tryz.underlying38⟩
def ti39:TI:=⟨1,24,[.z],.sl 74⟩
def tok39:bQ Tryz.prog 39 ti39:=⟨by kernel_rfl,by simp[ti39,aE,Value.oneCell'],Tryz.underlying39⟩
def ti40:TI:=⟨1,24,[.z],.sl 152⟩
def tok40:bQ Tryz.prog 40 ti40:=⟨by kernel_rfl,by simp[ti40,aE,Value.oneCell'],Tryz.underlying40⟩
def ti41:TI:=⟨1,24,[.z],.sl 228⟩
def tok41:bQ Tryz.prog 41 ti41:=⟨by kernel_rfl,by simp[ti41,aE,Value.oneCell'],Tryz.underlying41⟩
def ti42:TI:=⟨2,48,[.z,.z],.st [(0,41),(1,24)]⟩
def tok42:bQ Tryz.prog 42 ti42:=⟨by kernel_rfl,by simp[ti42,aE,Value.oneCell'],⟨_,Tryz.underlying42,rfl⟩⟩
def ti43:TI:=⟨2,48,[.z,.z],.st [(0,41),(1,24)]⟩
def tok43:bQ Tryz.prog 43 ti43:=⟨by kernel_rfl,by simp[ti43,aE,Value.oneCell'],⟨_,Tryz.underlying43,rfl⟩⟩
def ti44:TI:=⟨1,24,[.z],.sl 226⟩
def tok44:bQ Tryz.prog 44 ti44:=⟨by kernel_rfl,by simp[ti44,aE,Value.oneCell'],Tryz.underlying44⟩
def ti45:TI:=⟨2,32,[.v (.int .i64 0),.z],.st [(0,3),(1,44)]⟩
def tok45:bQ Tryz.prog 45 ti45:=⟨by kernel_rfl,by simp[ti45,aE,Value.oneCell'],⟨_,Tryz.underlying45,rfl⟩⟩
def ti46:TI:=⟨2,32,[.v (.int .i64 0),.z],.st [(0,3),(1,44)]⟩
def tok46:bQ Tryz.prog 46 ti46:=⟨by kernel_rfl,by simp[ti46,aE,Value.oneCell'],⟨_,Tryz.underlying46,rfl⟩⟩
def ti47:TI:=⟨3,40,[.v (.int .i64 0),.v (.int .i64 0),.z],.st [(0,3),(1,3),(2,33)]⟩
def tok47:bQ Tryz.prog 47 ti47:=⟨by kernel_rfl,by simp[ti47,aE,Value.oneCell'],⟨_,Tryz.underlying47,rfl⟩⟩
def ti48:TI:=⟨3,40,[.v (.int .i64 0),.v (.int .i64 0),.z],.st [(0,3),(1,3),(2,33)]⟩
def tok48:bQ Tryz.prog 48 ti48:=⟨by kernel_rfl,by simp[ti48,aE,Value.oneCell'],⟨_,Tryz.underlying48,rfl⟩⟩
def ti49:TI:=⟨5,56,[.v (.int .i64 0),.v (.int .i64 0),.z,.v (.int .i64 0),.v (.int .i64 0)],.st [(0,48),(3,3),(4,3)]⟩
def tok49:bQ Tryz.prog 49 ti49:=⟨by kernel_rfl,by simp[ti49,aE,Value.oneCell'],⟨_,Tryz.underlying49,rfl⟩⟩
def ti50:TI:=⟨5,56,[.v (.int .i64 0),.v (.int .i64 0),.z,.v (.int .i64 0),.v (.int .i64 0)],.st [(0,48),(3,3),(4,3)]⟩
def tok50:bQ Tryz.prog 50 ti50:=⟨by kernel_rfl,by simp[ti50,aE,Value.oneCell'],⟨_,Tryz.underlying50,rfl⟩⟩
def ti51:TI:=⟨24,400,[.z,.z,.z,.v (.int .i64 0),.z,.z,.z,.z,.z,.z,.z,.z,.v (.int .i64 0),.z,.v (.int .i64 0),.v (.int .i64 0),.v (.int .i64 0),.v (.int .i64 0),.v (.bool false),.v (.int .i64 0),.v (.int .i64 0),.z,.v (.int .i64 0),.v (.int .i64 0)],.st [(0,35),(5,36),(6,37),(7,38),(8,39),(9,40),(10,43),(12,46),(14,3),(15,3),(16,3),(17,3),(18,4),(19,50)]⟩
def tok51:bQ Tryz.prog 51 ti51:=⟨by kernel_rfl,by simp[ti51,aE,Value.oneCell'],⟨_,Tryz.underlying51,rfl⟩⟩
def ti52:TI:=⟨24,400,[.z,.z,.z,.v (.int .i64 0),.z,.z,.z,.z,.z,.z,.z,.z,.v (.int .i64 0),.z,.v (.int .i64 0),.v (.int .i64 0),.v (.int .i64 0),.v (.int .i64 0),.v (.bool false),.v (.int .i64 0),.v (.int .i64 0),.z,.v (.int .i64 0),.v (.int .i64 0)],.st [(0,35),(5,36),(6,37),(7,38),(8,39),(9,40),(10,43),(12,46),(14,3),(15,3),(16,3),(17,3),(18,4),(19,50)]⟩
def tok52:bQ Tryz.prog 52 ti52:=⟨by kernel_rfl,by simp[ti52,aE,Value.oneCell'],⟨_,Tryz.underlying52,rfl⟩⟩
def ti53:TI:=⟨1,24,[.z],.sl 82⟩
def tok53:bQ Tryz.prog 53 ti53:=⟨by kernel_rfl,by simp[ti53,aE,Value.oneCell'],Tryz.underlying53⟩
def ti54:TI:=⟨2,32,[.v (.int .i64 0),.z],.st [(0,3),(1,53)]⟩
def tok54:bQ Tryz.prog 54 ti54:=⟨by kernel_rfl,by simp[ti54,aE,Value.oneCell'],⟨_,Tryz.underlying54,rfl⟩⟩
def ti55:TI:=⟨2,32,[.v (.int .i64 0),.z],.st [(0,3),(1,53)]⟩
def tok55:bQ Tryz.prog 55 ti55:=⟨by kernel_rfl,by simp[ti55,aE,Value.oneCell'],⟨_,Tryz.underlying55,rfl⟩⟩
def ti56:TI:=⟨26,432,[.z,.z,.z,.v (.int .i64 0),.z,.z,.z,.z,.z,.z,.z,.z,.v (.int .i64 0),.z,.v (.int .i64 0),.v (.int .i64 0),.v (.int .i64 0),.v (.int .i64 0),.v (.bool false),.v (.int .i64 0),.v (.int .i64 0),.z,.v (.int .i64 0),.v (.int .i64 0),.v (.int .i64 0),.z],.st [(0,52),(24,55)]⟩
def tok56:bQ Tryz.prog 56 ti56:=⟨by kernel_rfl,by simp[ti56,aE,Value.oneCell'],⟨_,Tryz.underlying56,rfl⟩⟩
def ti57:TI:=⟨26,432,[.z,.z,.z,.v (.int .i64 0),.z,.z,.z,.z,.z,.z,.z,.z,.v (.int .i64 0),.z,.v (.int .i64 0),.v (.int .i64 0),.v (.int .i64 0),.v (.int .i64 0),.v (.bool false),.v (.int .i64 0),.v (.int .i64 0),.z,.v (.int .i64 0),.v (.int .i64 0),.v (.int .i64 0),.z],.st [(0,52),(24,55)]⟩
def tok57:bQ Tryz.prog 57 ti57:=⟨by kernel_rfl,by simp[ti57,aE,Value.oneCell'],⟨_,Tryz.underlying57,rfl⟩⟩
def ti73:TI:=⟨4,32,[.v (.int .i64 0),.v (.int .i64 0),.v (.int .i64 0),.v (.int .i64 0)],.st [(0,3),(1,3),(2,3),(3,3)]⟩
def tok73:bQ Tryz.prog 73 ti73:=⟨by kernel_rfl,by simp[ti73,aE,Value.oneCell'],⟨_,Tryz.underlying73,rfl⟩⟩
def ti74:TI:=⟨4,32,[.v (.int .i64 0),.v (.int .i64 0),.v (.int .i64 0),.v (.int .i64 0)],.st [(0,3),(1,3),(2,3),(3,3)]⟩
def tok74:bQ Tryz.prog 74 ti74:=⟨by kernel_rfl,by simp[ti74,aE,Value.oneCell'],⟨_,Tryz.underlying74,rfl⟩⟩
def ti76:TI:=⟨8,64,[.v (.int .i64 0),.v (.int .i64 0),.v (.int .i64 0),.v (.int .i64 0),.v (.int .i64 0),.v (.int .i64 0),.v (.int .i64 0),.v (.int .i64 0)],.st [(0,3),(1,3),(2,3),(3,3),(4,3),(5,3),(6,3),(7,3)]⟩
def tok76:bQ Tryz.prog 76 ti76:=⟨by kernel_rfl,by simp[ti76,aE,Value.oneCell'],⟨_,Tryz.underlying76,rfl⟩⟩
def ti77:TI:=⟨8,64,[.v (.int .i64 0),.v (.int .i64 0),.v (.int .i64 0),.v (.int .i64 0),.v (.int .i64 0),.v (.int .i64 0),.v (.int .i64 0),.v (.int .i64 0)],.st [(0,3),(1,3),(2,3),(3,3),(4,3),(5,3),(6,3),(7,3)]⟩
def tok77:bQ Tryz.prog 77 ti77:=⟨by kernel_rfl,by simp[ti77,aE,Value.oneCell'],⟨_,Tryz.underlying77,rfl⟩⟩
def ti79:TI:=⟨1,24,[.z],.sl 84⟩
def tok79:bQ Tryz.prog 79 ti79:=⟨by kernel_rfl,by simp[ti79,aE,Value.oneCell'],Tryz.underlying79⟩
def ti81:TI:=⟨2,32,[.v (.int .i64 0),.z],.st [(0,3),(1,33)]⟩
def tok81:bQ Tryz.prog 81 ti81:=⟨by kernel_rfl,by simp[ti81,aE,Value.oneCell'],⟨_,Tryz.underlying81,rfl⟩⟩
def ti82:TI:=⟨2,32,[.v (.int .i64 0),.z],.st [(0,3),(1,33)]⟩
def tok82:bQ Tryz.prog 82 ti82:=⟨by kernel_rfl,by simp[ti82,aE,Value.oneCell'],⟨_,Tryz.underlying82,rfl⟩⟩
def ti83:TI:=⟨3,24,[.v (.int .i64 0),.v (.int .i64 0),.v (.int .i64 0)],.st [(0,3),(1,3),(2,3)]⟩
def tok83:bQ Tryz.prog 83 ti83:=⟨by kernel_rfl,by simp[ti83,aE,Value.oneCell'],⟨_,Tryz.underlying83,rfl⟩⟩
def ti84:TI:=⟨3,24,[.v (.int .i64 0),.v (.int .i64 0),.v (.int .i64 0)],.st [(0,3),(1,3),(2,3)]⟩
def tok84:bQ Tryz.prog 84 ti84:=⟨by kernel_rfl,by simp[ti84,aE,Value.oneCell'],⟨_,Tryz.underlying84,rfl⟩⟩
def ti88:TI:=⟨5,40,[.v (.int .i64 0),.v (.int .i64 0),.v (.int .i64 0),.v (.int .i64 0),.v (.int .i64 0)],.st [(0,3),(1,3),(2,3),(3,3),(4,3)]⟩
def tok88:bQ Tryz.prog 88 ti88:=⟨by kernel_rfl,by simp[ti88,aE,Value.oneCell'],⟨_,Tryz.underlying88,rfl⟩⟩
def ti89:TI:=⟨5,40,[.v (.int .i64 0),.v (.int .i64 0),.v (.int .i64 0),.v (.int .i64 0),.v (.int .i64 0)],.st [(0,3),(1,3),(2,3),(3,3),(4,3)]⟩
def tok89:bQ Tryz.prog 89 ti89:=⟨by kernel_rfl,by simp[ti89,aE,Value.oneCell'],⟨_,Tryz.underlying89,rfl⟩⟩
def ti97:TI:=⟨2,16,[.v (.int .i64 0),.v (.int .i64 0)],.st [(0,3),(1,3)]⟩
def tok97:bQ Tryz.prog 97 ti97:=⟨by kernel_rfl,by simp[ti97,aE,Value.oneCell'],⟨_,Tryz.underlying97,rfl⟩⟩
def ti98:TI:=⟨2,16,[.v (.int .i64 0),.v (.int .i64 0)],.st [(0,3),(1,3)]⟩
def tok98:bQ Tryz.prog 98 ti98:=⟨by kernel_rfl,by simp[ti98,aE,Value.oneCell'],⟨_,Tryz.underlying98,rfl⟩⟩
def ti101:TI:=⟨2,48,[.z,.z],.st [(0,24),(1,25)]⟩
def tok101:bQ Tryz.prog 101 ti101:=⟨by kernel_rfl,by simp[ti101,aE,Value.oneCell'],⟨_,Tryz.underlying101,rfl⟩⟩
def ti102:TI:=⟨1,24,[.z],.sl 493⟩
def tok102:bQ Tryz.prog 102 ti102:=⟨by kernel_rfl,by simp[ti102,aE,Value.oneCell'],Tryz.underlying102⟩
def ti103:TI:=⟨1,24,[.z],.st [(0,102)]⟩
def tok103:bQ Tryz.prog 103 ti103:=⟨by kernel_rfl,by simp[ti103,aE,Value.oneCell'],⟨_,Tryz.underlying103,rfl⟩⟩
def ti104:TI:=⟨1,24,[.z],.st [(0,102)]⟩
def tok104:bQ Tryz.prog 104 ti104:=⟨by kernel_rfl,by simp[ti104,aE,Value.oneCell'],⟨_,Tryz.underlying104,rfl⟩⟩
def ti105:TI:=⟨3,72,[.z,.z,.z],.st [(0,101),(2,104)]⟩
def tok105:bQ Tryz.prog 105 ti105:=⟨by kernel_rfl,by simp[ti105,aE,Value.oneCell'],⟨_,Tryz.underlying105,rfl⟩⟩
def ti106:TI:=⟨3,72,[.z,.z,.z],.st [(0,101),(2,104)]⟩
def tok106:bQ Tryz.prog 106 ti106:=⟨by kernel_rfl,by simp[ti106,aE,Value.oneCell'],⟨_,Tryz.underlying106,rfl⟩⟩
def ti107:TI:=⟨5,104,[.z,.z,.z,.v (.int .i64 0),.z],.st [(0,106),(3,3),(4,33)]⟩
def tok107:bQ Tryz.prog 107 ti107:=⟨by kernel_rfl,by simp[ti107,aE,Value.oneCell'],⟨_,Tryz.underlying107,rfl⟩⟩
def ti108:TI:=⟨5,104,[.z,.z,.z,.v (.int .i64 0),.z],.st [(0,106),(3,3),(4,33)]⟩
def tok108:bQ Tryz.prog 108 ti108:=⟨by kernel_rfl,by simp[ti108,aE,Value.oneCell'],⟨_,Tryz.underlying108,rfl⟩⟩
def ti109:TI:=⟨1,24,[.z],.sl 351⟩
def tok109:bQ Tryz.prog 109 ti109:=⟨by kernel_rfl,by simp[ti109,aE,Value.oneCell'],Tryz.underlying109⟩
def ti110:TI:=⟨1,24,[.z],.sl 353⟩
def tok110:bQ Tryz.prog 110 ti110:=⟨by kernel_rfl,by simp[ti110,aE,Value.oneCell'],Tryz.underlying110⟩
def ti111:TI:=⟨1,24,[.z],.sl 355⟩
def tok111:bQ Tryz.prog 111 ti111:=⟨by kernel_rfl,by simp[ti111,aE,Value.oneCell'],Tryz.underlying111⟩
def ti112:TI:=⟨1,24,[.z],.sl 357⟩
def tok112:bQ Tryz.prog 112 ti112:=⟨by kernel_rfl,by simp[ti112,aE,Value.oneCell'],Tryz.underlying112⟩
def ti113:TI:=⟨1,24,[.z],.sl 344⟩
def tok113:bQ Tryz.prog 113 ti113:=⟨by kernel_rfl,by simp[ti113,aE,Value.oneCell'],Tryz.underlying113⟩
def ti114:TI:=⟨1,24,[.z],.sl 431⟩
def tok114:bQ Tryz.prog 114 ti114:=⟨by kernel_rfl,by simp[ti114,aE,Value.oneCell'],Tryz.underlying114⟩
def ti115:TI:=⟨2,48,[.z,.z],.st [(0,114),(1,24)]⟩
def tok115:bQ Tryz.prog 115 ti115:=⟨by kernel_rfl,by simp[ti115,aE,Value.oneCell'],⟨_,Tryz.underlying115,rfl⟩⟩
def ti116:TI:=⟨2,48,[.z,.z],.st [(0,114),(1,24)]⟩
def tok116:bQ Tryz.prog 116 ti116:=⟨by kernel_rfl,by simp[ti116,aE,Value.oneCell'],⟨_,Tryz.underlying116,rfl⟩⟩
def ti117:TI:=⟨1,24,[.z],.sl 436⟩
def tok117:bQ Tryz.prog 117 ti117:=⟨by kernel_rfl,by simp[ti117,aE,Value.oneCell'],Tryz.underlying117⟩
def ti118:TI:=⟨2,32,[.v (.int .i64 0),.z],.st [(0,3),(1,117)]⟩
def tok118:bQ Tryz.prog 118 ti118:=⟨by kernel_rfl,by simp[ti118,aE,Value.oneCell'],⟨_,Tryz.underlying118,rfl⟩⟩
def ti119:TI:=⟨2,32,[.v (.int .i64 0),.z],.st [(0,3),(1,117)]⟩
def tok119:bQ Tryz.prog 119 ti119:=⟨by kernel_rfl,by simp[ti119,aE,Value.oneCell'],⟨_,Tryz.underlying119,rfl⟩⟩
def ti120:TI:=⟨3,40,[.v (.int .i64 0),.v (.int .i64 0),.z],.st [(0,3),(1,3),(2,33)]⟩
def tok120:bQ Tryz.prog 120 ti120:=⟨by kernel_rfl,by simp[ti120,aE,Value.oneCell'],⟨_,Tryz.underlying120,rfl⟩⟩
def ti121:TI:=⟨5,56,[.v (.int .i64 0),.v (.int .i64 0),.z,.v (.int .i64 0),.v (.int .i64 0)],.st [(0,120),(3,3),(4,3)]⟩
def tok121:bQ Tryz.prog 121 ti121:=⟨by kernel_rfl,by simp[ti121,aE,Value.oneCell'],⟨_,Tryz.underlying121,rfl⟩⟩
def ti122:TI:=⟨5,56,[.v (.int .i64 0),.v (.int .i64 0),.z,.v (.int .i64 0),.v (.int .i64 0)],.st [(0,120),(3,3),(4,3)]⟩
def tok122:bQ Tryz.prog 122 ti122:=⟨by kernel_rfl,by simp[ti122,aE,Value.oneCell'],⟨_,Tryz.underlying122,rfl⟩⟩
def ti123:TI:=⟨24,400,[.z,.z,.z,.v (.int .i64 0),.z,.z,.z,.z,.z,.z,.z,.z,.v (.int .i64 0),.z,.v (.int .i64 0),.v (.int .i64 0),.v (.int .i64 0),.v (.int .i64 0),.v (.bool false),.v (.int .i64 0),.v (.int .i64 0),.z,.v (.int .i64 0),.v (.int .i64 0)],.st [(0,108),(5,109),(6,110),(7,111),(8,112),(9,113),(10,116),(12,119),(14,3),(15,3),(16,3),(17,3),(18,4),(19,122)]⟩
def tok123:bQ Tryz.prog 123 ti123:=⟨by kernel_rfl,by simp[ti123,aE,Value.oneCell'],⟨_,Tryz.underlying123,rfl⟩⟩
def ti124:TI:=⟨24,400,[.z,.z,.z,.v (.int .i64 0),.z,.z,.z,.z,.z,.z,.z,.z,.v (.int .i64 0),.z,.v (.int .i64 0),.v (.int .i64 0),.v (.int .i64 0),.v (.int .i64 0),.v (.bool false),.v (.int .i64 0),.v (.int .i64 0),.z,.v (.int .i64 0),.v (.int .i64 0)],.st [(0,108),(5,109),(6,110),(7,111),(8,112),(9,113),(10,116),(12,119),(14,3),(15,3),(16,3),(17,3),(18,4),(19,122)]⟩
def tok124:bQ Tryz.prog 124 ti124:=⟨by kernel_rfl,by simp[ti124,aE,Value.oneCell'],⟨_,Tryz.underlying124,rfl⟩⟩
def ti151:TI:=⟨1,24,[.z],.st [(0,24)]⟩
def tok151:bQ Tryz.prog 151 ti151:=⟨by kernel_rfl,by simp[ti151,aE,Value.oneCell'],⟨_,Tryz.underlying151,rfl⟩⟩
def ti152:TI:=⟨1,24,[.z],.st [(0,24)]⟩
def tok152:bQ Tryz.prog 152 ti152:=⟨by kernel_rfl,by simp[ti152,aE,Value.oneCell'],⟨_,Tryz.underlying152,rfl⟩⟩
def ti166:TI:=⟨3,24,[.v (.int .i64 0),.v (.int .i64 0),.v (.int .i64 0)],.st [(0,3),(1,3),(2,3)]⟩
def tok166:bQ Tryz.prog 166 ti166:=⟨by kernel_rfl,by simp[ti166,aE,Value.oneCell'],⟨_,Tryz.underlying166,rfl⟩⟩
def ti167:TI:=⟨3,24,[.v (.int .i64 0),.v (.int .i64 0),.v (.int .i64 0)],.st [(0,3),(1,3),(2,3)]⟩
def tok167:bQ Tryz.prog 167 ti167:=⟨by kernel_rfl,by simp[ti167,aE,Value.oneCell'],⟨_,Tryz.underlying167,rfl⟩⟩
def ti168:TI:=⟨4,32,[.v (.int .i64 0),.v (.int .i64 0),.v (.int .i64 0),.v (.int .i64 0)],.st [(0,3),(1,3),(2,3),(3,3)]⟩
def tok168:bQ Tryz.prog 168 ti168:=⟨by kernel_rfl,by simp[ti168,aE,Value.oneCell'],⟨_,Tryz.underlying168,rfl⟩⟩
def ti169:TI:=⟨4,32,[.v (.int .i64 0),.v (.int .i64 0),.v (.int .i64 0),.v (.int .i64 0)],.st [(0,3),(1,3),(2,3),(3,3)]⟩
def tok169:bQ Tryz.prog 169 ti169:=⟨by kernel_rfl,by simp[ti169,aE,Value.oneCell'],⟨_,Tryz.underlying169,rfl⟩⟩
def ti195:TI:=⟨1,24,[.z],.sl 201⟩
def tok195:bQ Tryz.prog 195 ti195:=⟨by kernel_rfl,by simp[ti195,aE,Value.oneCell'],Tryz.underlying195⟩
def ti200:TI:=⟨2,16,[.v (.int .i64 0),.v (.int .i64 0)],.st [(0,3),(1,3)]⟩
def tok200:bQ Tryz.prog 200 ti200:=⟨by kernel_rfl,by simp[ti200,aE,Value.oneCell'],⟨_,Tryz.underlying200,rfl⟩⟩
def ti201:TI:=⟨2,16,[.v (.int .i64 0),.v (.int .i64 0)],.st [(0,3),(1,3)]⟩
def tok201:bQ Tryz.prog 201 ti201:=⟨by kernel_rfl,by simp[ti201,aE,Value.oneCell'],⟨_,Tryz.underlying201,rfl⟩⟩
def ti210:TI:=⟨3,24,[.v (.int .i64 0),.v (.int .i64 0),.v (.int .i64 0)],.st [(0,3),(1,3),(2,3)]⟩
def tok210:bQ Tryz.prog 210 ti210:=⟨by kernel_rfl,by simp[ti210,aE,Value.oneCell'],⟨_,Tryz.underlying210,rfl⟩⟩
def ti211:TI:=⟨3,24,[.v (.int .i64 0),.v (.int .i64 0),.v (.int .i64 0)],.st [(0,3),(1,3),(2,3)]⟩
def tok211:bQ Tryz.prog 211 ti211:=⟨by kernel_rfl,by simp[ti211,aE,Value.oneCell'],⟨_,Tryz.underlying211,rfl⟩⟩
def ti215:TI:=⟨2,16,[.v (.int .i64 0),.v (.int .i64 0)],.st [(0,3),(1,3)]⟩
def tok215:bQ Tryz.prog 215 ti215:=⟨by kernel_rfl,by simp[ti215,aE,Value.oneCell'],⟨_,Tryz.underlying215,rfl⟩⟩
def ti216:TI:=⟨2,16,[.v (.int .i64 0),.v (.int .i64 0)],.st [(0,3),(1,3)]⟩
def tok216:bQ Tryz.prog 216 ti216:=⟨by kernel_rfl,by simp[ti216,aE,Value.oneCell'],⟨_,Tryz.underlying216,rfl⟩⟩
def ti221:TI:=⟨2,16,[.v (.int .i64 0),.v (.int .i64 0)],.st [(0,3),(1,3)]⟩
def tok221:bQ Tryz.prog 221 ti221:=⟨by kernel_rfl,by simp[ti221,aE,Value.oneCell'],⟨_,Tryz.underlying221,rfl⟩⟩
def ti222:TI:=⟨2,16,[.v (.int .i64 0),.v (.int .i64 0)],.st [(0,3),(1,3)]⟩
def tok222:bQ Tryz.prog 222 ti222:=⟨by kernel_rfl,by simp[ti222,aE,Value.oneCell'],⟨_,Tryz.underlying222,rfl⟩⟩
def ti225:TI:=⟨3,24,[.v (.int .i64 0),.v (.int .i64 0),.v (.int .i64 0)],.st [(0,3),(1,3),(2,3)]⟩
def tok225:bQ Tryz.prog 225 ti225:=⟨by kernel_rfl,by simp[ti225,aE,Value.oneCell'],⟨_,Tryz.underlying225,rfl⟩⟩
def ti226:TI:=⟨3,24,[.v (.int .i64 0),.v (.int .i64 0),.v (.int .i64 0)],.st [(0,3),(1,3),(2,3)]⟩
def tok226:bQ Tryz.prog 226 ti226:=⟨by kernel_rfl,by simp[ti226,aE,Value.oneCell'],⟨_,Tryz.underlying226,rfl⟩⟩
def ti228:TI:=⟨1,24,[.z],.sl 222⟩
def tok228:bQ Tryz.prog 228 ti228:=⟨by kernel_rfl,by simp[ti228,aE,Value.oneCell'],Tryz.underlying228⟩
def ti259:TI:=⟨5,56,[.v (.int .i64 0),.v (.int .i64 0),.v (.int .i64 0),.v (.int .i64 0),.z],.st [(0,3),(1,3),(2,3),(3,3),(4,33)]⟩
def tok259:bQ Tryz.prog 259 ti259:=⟨by kernel_rfl,by simp[ti259,aE,Value.oneCell'],⟨_,Tryz.underlying259,rfl⟩⟩
def ti260:TI:=⟨5,56,[.v (.int .i64 0),.v (.int .i64 0),.v (.int .i64 0),.v (.int .i64 0),.z],.st [(0,3),(1,3),(2,3),(3,3),(4,33)]⟩
def tok260:bQ Tryz.prog 260 ti260:=⟨by kernel_rfl,by simp[ti260,aE,Value.oneCell'],⟨_,Tryz.underlying260,rfl⟩⟩
def ti262:TI:=⟨1,24,[.z],.sl 89⟩
def tok262:bQ Tryz.prog 262 ti262:=⟨by kernel_rfl,by simp[ti262,aE,Value.oneCell'],Tryz.underlying262⟩
def ti264:TI:=⟨3,40,[.z,.v (.int .i64 0),.v (.int .i64 0)],.st [(0,22),(1,3),(2,3)]⟩
def tok264:bQ Tryz.prog 264 ti264:=⟨by kernel_rfl,by simp[ti264,aE,Value.oneCell'],⟨_,Tryz.underlying264,rfl⟩⟩
def ti265:TI:=⟨3,40,[.z,.v (.int .i64 0),.v (.int .i64 0)],.st [(0,22),(1,3),(2,3)]⟩
def tok265:bQ Tryz.prog 265 ti265:=⟨by kernel_rfl,by simp[ti265,aE,Value.oneCell'],⟨_,Tryz.underlying265,rfl⟩⟩
def ti288:TI:=⟨1,8,[.v (.map none)],.mp 3 4 (.bool false)⟩
def tok288:bQ Tryz.prog 288 ti288:=⟨by kernel_rfl,by simp[ti288,aE,Value.oneCell'],⟨Tryz.underlying288,Tryz.underlying3,by kernel_rfl,rfl⟩⟩
def ti295:TI:=⟨1,8,[.v (.map none)],.mp 3 3 (.int .i64 0)⟩
def tok295:bQ Tryz.prog 295 ti295:=⟨by kernel_rfl,by simp[ti295,aE,Value.oneCell'],⟨Tryz.underlying295,Tryz.underlying3,by kernel_rfl,rfl⟩⟩
def ti309:TI:=⟨1,8,[.v (.int .u64 0)],.sc (.int .u64)⟩
def tok309:bQ Tryz.prog 309 ti309:=⟨by kernel_rfl,by simp[ti309,aE,Value.oneCell'],⟨Tryz.underlying309,trivial⟩⟩
def ti344:TI:=⟨1,24,[.z],.st [(0,24)]⟩
def tok344:bQ Tryz.prog 344 ti344:=⟨by kernel_rfl,by simp[ti344,aE,Value.oneCell'],⟨_,Tryz.underlying344,rfl⟩⟩
def ti351:TI:=⟨2,16,[.v (.int .i64 0),.v (.int .i64 0)],.st [(0,3),(1,3)]⟩
def tok351:bQ Tryz.prog 351 ti351:=⟨by kernel_rfl,by simp[ti351,aE,Value.oneCell'],⟨_,Tryz.underlying351,rfl⟩⟩
def ti353:TI:=⟨3,24,[.v (.int .i64 0),.v (.int .i64 0),.v (.int .i64 0)],.st [(0,3),(1,3),(2,3)]⟩
def tok353:bQ Tryz.prog 353 ti353:=⟨by kernel_rfl,by simp[ti353,aE,Value.oneCell'],⟨_,Tryz.underlying353,rfl⟩⟩
def ti355:TI:=⟨3,24,[.v (.int .i64 0),.v (.int .i64 0),.v (.int .i64 0)],.st [(0,3),(1,3),(2,3)]⟩
def tok355:bQ Tryz.prog 355 ti355:=⟨by kernel_rfl,by simp[ti355,aE,Value.oneCell'],⟨_,Tryz.underlying355,rfl⟩⟩
def ti357:TI:=⟨4,32,[.v (.int .i64 0),.v (.int .i64 0),.v (.int .i64 0),.v (.int .i64 0)],.st [(0,3),(1,3),(2,3),(3,3)]⟩
def tok357:bQ Tryz.prog 357 ti357:=⟨by kernel_rfl,by simp[ti357,aE,Value.oneCell'],⟨_,Tryz.underlying357,rfl⟩⟩
def ti400:TI:=⟨1,8,[.v (.int .i64 0)],.sc (.int .i64)⟩
def tok400:bQ Tryz.prog 400 ti400:=⟨by kernel_rfl,by simp[ti400,aE,Value.oneCell'],⟨Tryz.underlying400,trivial⟩⟩
def ti407:TI:=⟨1,4,[.v (.int .u32 0)],.sc (.int .u32)⟩
def tok407:bQ Tryz.prog 407 ti407:=⟨by kernel_rfl,by simp[ti407,aE,Value.oneCell'],⟨Tryz.underlying407,trivial⟩⟩
def ti409:TI:=⟨1,8,[.v (.int .u64 0)],.sc (.int .u64)⟩
def tok409:bQ Tryz.prog 409 ti409:=⟨by kernel_rfl,by simp[ti409,aE,Value.oneCell'],⟨Tryz.underlying409,trivial⟩⟩
def ti431:TI:=⟨1,24,[.z],.sl 479⟩
def tok431:bQ Tryz.prog 431 ti431:=⟨by kernel_rfl,by simp[ti431,aE,Value.oneCell'],Tryz.underlying431⟩
def ti436:TI:=⟨3,24,[.v (.int .i64 0),.v (.int .i64 0),.v (.int .i64 0)],.st [(0,3),(1,3),(2,3)]⟩
def tok436:bQ Tryz.prog 436 ti436:=⟨by kernel_rfl,by simp[ti436,aE,Value.oneCell'],⟨_,Tryz.underlying436,rfl⟩⟩
def ti461:TI:=⟨1,8,[.v (.int .u64 0)],.sc (.int .u64)⟩
def tok461:bQ Tryz.prog 461 ti461:=⟨by kernel_rfl,by simp[ti461,aE,Value.oneCell'],⟨Tryz.underlying461,trivial⟩⟩
def ti479:TI:=⟨2,16,[.v (.int .i64 0),.v (.int .i64 0)],.st [(0,3),(1,3)]⟩
def tok479:bQ Tryz.prog 479 ti479:=⟨by kernel_rfl,by simp[ti479,aE,Value.oneCell'],⟨_,Tryz.underlying479,rfl⟩⟩
def ti493:TI:=⟨2,16,[.v (.int .i64 0),.v (.int .i64 0)],.st [(0,3),(1,3)]⟩
def tok493:bQ Tryz.prog 493 ti493:=⟨by kernel_rfl,by simp[ti493,aE,Value.oneCell'],⟨_,Tryz.underlying493,rfl⟩⟩
def ti510:TI:=⟨0,0,[],.st [(0,509)]⟩
def tok510:bQ Tryz.prog 510 ti510:=⟨by kernel_rfl,by simp[ti510,aE,Value.oneCell'],⟨_,Tryz.underlying510,rfl⟩⟩
def ti511:TI:=⟨0,0,[],.st [(0,509)]⟩
def tok511:bQ Tryz.prog 511 ti511:=⟨by kernel_rfl,by simp[ti511,aE,Value.oneCell'],⟨_,Tryz.underlying511,rfl⟩⟩
def ti513:TI:=⟨1,1,[.v (.int .u8 0)],.sc (.int .u8)⟩
def tok513:bQ Tryz.prog 513 ti513:=⟨by kernel_rfl,by simp[ti513,aE,Value.oneCell'],⟨Tryz.underlying513,trivial⟩⟩
def ti514:TI:=⟨1,1,[.v (.int .u8 0)],.sc (.int .u8)⟩
def tok514:bQ Tryz.prog 514 ti514:=⟨by kernel_rfl,by simp[ti514,aE,Value.oneCell'],⟨Tryz.underlying514,trivial⟩⟩
def ti517:TI:=⟨1,4,[.v (.int .i32 0)],.sc (.int .i32)⟩
def tok517:bQ Tryz.prog 517 ti517:=⟨by kernel_rfl,by simp[ti517,aE,Value.oneCell'],⟨Tryz.underlying517,trivial⟩⟩
def ti518:TI:=⟨1,4,[.v (.int .i32 0)],.sc (.int .i32)⟩
def tok518:bQ Tryz.prog 518 ti518:=⟨by kernel_rfl,by simp[ti518,aE,Value.oneCell'],⟨Tryz.underlying518,trivial⟩⟩
def tab:List (Nat × TI):=[(3,ti3),(4,ti4),(2,ti2),(5,ti5),(6,ti6),(7,ti7),(8,ti8),(9,ti9),(10,ti10),(11,ti11),(12,ti12),(13,ti13),(14,ti14),(21,ti21),(22,ti22),(24,ti24),(25,ti25),(26,ti26),(27,ti27),(28,ti28),(29,ti29),(30,ti30),(31,ti31),(32,ti32),(33,ti33),(34,ti34),(35,ti35),(36,ti36),(37,ti37),(38,ti38),(39,ti39),(40,ti40),(41,ti41),(42,ti42),(43,ti43),(44,ti44),(45,ti45),(46,ti46),(47,ti47),(48,ti48),(49,ti49),(50,ti50),(51,ti51),(52,ti52),(53,ti53),(54,ti54),(55,ti55),(56,ti56),(57,ti57),(73,ti73),(74,ti74),(76,ti76),(77,ti77),(79,ti79),(81,ti81),(82,ti82),(83,ti83),(84,ti84),(88,ti88),(89,ti89),(97,ti97),(98,ti98),(101,ti101),(102,ti102),(103,ti103),(104,ti104),(105,ti105),(106,ti106),(107,ti107),(108,ti108),(109,ti109),(110,ti110),(111,ti111),(112,ti112),(113,ti113),(114,ti114),(115,ti115),(116,ti116),(117,ti117),(118,ti118),(119,ti119),(120,ti120),(121,ti121),(122,ti122),(123,ti123),(124,ti124),(151,ti151),(152,ti152),(166,ti166),(167,ti167),(168,ti168),(169,ti169),(195,ti195),(200,ti200),(201,ti201),(210,ti210),(211,ti211),(215,ti215),(216,ti216),(221,ti221),(222,ti222),(225,ti225),(226,ti226),(228,ti228),(259,ti259),(260,ti260),(262,ti262),(264,ti264),(265,ti265),(288,ti288),(295,ti295),(309,ti309),(344,ti344),(351,ti351),(353,ti353),(355,ti355),(357,ti357),(400,ti400),(407,ti407),(409,ti409),(431,ti431),(436,ti436),(461,ti461),(479,ti479),(493,ti493),(510,ti510),(511,ti511),(513,ti513),(514,ti514),(517,ti517),(518,ti518)]
def Ua:TB Tryz.prog tab:=⟨tok3,tok4,tok2,tok5,tok6,tok7,tok8,tok9,tok10,tok11,tok12,tok13,tok14,tok21,tok22,tok24,tok25,tok26,tok27,tok28,tok29,tok30,tok31,tok32,tok33,tok34,tok35,tok36,tok37,tok38,tok39,tok40,tok41,tok42,tok43,tok44,tok45,tok46,tok47,tok48,tok49,tok50,tok51,tok52,tok53,tok54,tok55,tok56,tok57,tok73,tok74,tok76,tok77,tok79,tok81,tok82,tok83,tok84,tok88,tok89,tok97,tok98,tok101,tok102,tok103,tok104,tok105,tok106,tok107,tok108,tok109,tok110,tok111,tok112,tok113,tok114,tok115,tok116,tok117,tok118,tok119,tok120,tok121,tok122,tok123,tok124,tok151,tok152,tok166,tok167,tok168,tok169,tok195,tok200,tok201,tok210,tok211,tok215,tok216,tok221,tok222,tok225,tok226,tok228,tok259,tok260,tok262,tok264,tok265,tok288,tok295,tok309,tok344,tok351,tok353,tok355,tok357,tok400,tok407,tok409,tok431,tok436,tok461,tok479,tok493,tok510,tok511,tok513,tok514,tok517,tok518,trivial⟩
def TE:Nat->Option TI:=KO tab
def B8:∀t i,TE t=some i->bQ Tryz.prog t i:=Gx Ua
def TC:C->Value->C
 | .s .own rows,v=>.s (.tag v) rows
 | c,_=>c
def Ah(u:Nat->Value):Nat->List C->List C
 | _,[]=>[]
 | j,c::cs=>TC c (u j)::Ah u (j+1) cs
def wW(u:Nat->Nat->Value):Nat->List MA->List (Nat × AV)
 | _,[]=>[]
 | i,.val a cs::A=>(i,.H (mh a) cs)::wW u (i+1) A
 | i,.mut a cs::A=>(i,.H (mh a) (Ah (u i) 0 cs))::wW u (i+1) A
 | i,.ptr cs::A=>(i,.H .box cs)::wW u (i+1) A
def KJ(p:Nat->Value):Nat->List MA->List (Nat × Value)
 | _,[]=>[]
 | i,.ptr _::A=>(i,p i)::KJ p (i+1) A
 | i,_::A=>KJ p (i+1) A
def FJ:Nat->List MA->List (Nat × Nat)->List (Option Nat)
 | i,.val _ _::A,_::pl=>none::FJ (i+1) A pl
 | i,.mut _ _::A,p::pl=>some p.1::FJ (i+1) A pl
 | i,.ptr _::A,_::pl=>some i::FJ (i+1) A pl
 | _,_,_=>[]
def HC:List (Option Nat)->Bool
 | []=>true
 | none::l=>HC l
 | some t::l=>l.all (λx=>match x with|some a=>!Nat.beq t a|none=>true)&&HC l
def sles:List (Option Nat)->List Nat
 | []=>[]
 | none::l=>sles l
 | some t::l=>t::sles l
def UM(v:Value)(c y o:C):Prop:=
 match c with
 | .s .own _=>(match y with|.s (.tag v') rows=>v'=v/\o=.s .own rows|_=>False)
 | .s (.tag _) _=>False
 | .m _=>False
 | .it _ _=>False
 | c=>o=c
def Tq(u:Nat->Value):Nat->List C->List C->List C->Prop
 | _,[],_,o=>o=[]
 | j,c::cs,y::xs,o::os=>UM (u j) c y o/\Tq u (j+1) cs xs os
 | _,_,_,_=>False
def iP(u:Nat->Nat->Value)(F:Nat->AV):Nat->List MA->List (Nat × Nat)->List MA->Prop
 | _,[],_,[]=>True
 | i,.val _ _::A,_::pl,.val _ _::B=>iP u F (i+1) A pl B
 | i,.mut ag cs::A,p::pl,.mut a out::B=>(a=ag/\match F p.1 with|.H _ xs=>Tq (u i) 0 cs (xs.drop p.2) out|_=>False)/\iP u F (i+1) A pl B
 | i,.ptr _::A,_::pl,.ptr out::B=>(match F i with|.H .box xs=>xs=out|_=>False)/\iP u F (i+1) A pl B
 | _,_,_,_=>False
inductive aV(k k':Kd)(cs cs':List C)(Q:Prop):Prop
 |mk_ (h:k=k'/\cs=cs'/\Q)
variable{cs:List C}{k:Kd}
def aV.mk{b:Kd}{a:List C}{Q:Prop}(h1:k=b)(c:cs=a)(d:Q):aV k b cs a Q:=by refine .mk_ ?_;exact⟨h1,c,d⟩
def CK:type_of% @aV.mk:=@aV.mk
def aV.out{b:Kd}{a:List C}{Q:Prop}(h:aV k b cs a Q):k=b/\cs=a/\Q:=by obtain⟨h⟩:=h;exact h
def Tv(TE:Nat->Option TI)(d:List ResultVar)(k:Kd)(rcs:List C)(u:Nat->Nat->Value)(A B:List MA)(a:List (Nat × Nat)):Exit->(Nat->AV)->Prop:=λe F=>
 match e with
 | .normal=>resA TE F d (sles (FJ 0 A a)) λb c=>aV (kK b) k c rcs (iP u F 0 A a B)
 | .ret=>resA TE F d (sles (FJ 0 A a)) λb c=>aV (kK b) k c rcs (iP u F 0 A a B)
 | _=>False
section
variable{P:Program}{w0 w w1:World}{M S0 S:af}{N:fD}{φ:Nat->af}{F:Nat->AV}{a:Act}{TE:Nat->Option TI}
def eY.tag{Y:af}{c:C}{v:Value}(h:eY w S Y c v):eY w S Y (TC c v) v:=by
 cases h with
 | nil _ o a B=>cases o with
  | own=>exact .nil _ _ _ rfl
  | _=>exact .nil _ _ _ B
 | own _ o g k n l e u f B D E i p t K L M y=>cases o with
  | own=>exact .own _ _ g k n l e u f rfl D E i p t K L M y
  | U=>exact B.elim
  | tag z=>exact .own _ _ g k n l e u f B D E i p t K L M y
 | v _ x F=>exact .v _ _ F
 | x _ u F=>exact .x _ _ F
 | z _ a=>exact .z _ _
 | U _ g G k n l e u D E i N y=>exact .U _ g G k n l e u D E i N y
 | m _ b d O j t H P J q=>exact .m _ b d O j t H P J q
 | it _ r b since Q d seen j cur left t R H q y J T A=>exact .it _ r b since Q d seen j cur left t R H q y J T A
def eY.untag{Y:af}{z v:Value}{rows:List (List C)}(h:eY w S Y (.s (.tag z) rows) v):v=z/\eY w S Y (.s .own rows) v:=by
 cases h with
 | nil _ o a d=>exact⟨Eq.symm d,.nil _ _ _ trivial⟩
 | own _ o g k n e rows u f d i j b c l p q r t=>exact⟨Eq.symm d,.own _ _ g k n e rows u f trivial i j b c l p q r t⟩
def pM(u:Nat->Value):∀(j:Nat)(cs:List C),(Ah u j cs).length=cs.length
 | _,[]=>rfl
 | j,c::cs=>by simp[Ah,pM u (j+1) cs]
def GH(u:Nat->Value):∀(a:Nat)(cs:List C)(j:Nat),(Ah u a cs)[j]? = (cs[j]?).map λc=>TC c (u (a+j))
 | _,[],j=>by simp[Ah]
 | a,c::cs,0=>by simp[Ah]
 | a,c::cs,j+1=>by simp only[Ah,List.getElem?_cons_succ];rw[GH u (a+1) cs j,show a+1+j=a+(j+1) by omega]
variable{u:Nat->Value}
def dn.tag{Y:af}{cs:List C}(h:dn w S Y cs u):dn w S Y (Ah u 0 cs) u:=by
 obtain⟨f,e,g,i⟩:=h;refine⟨f,λj c a=>?_,λj a=>g j (by rwa [pM]at a),λj k a b=>i j k (by rwa [pM]at a) (by rwa [pM]at b)⟩;rw[GH,Y7]at a;cases d:cs[j]? with
 | none=>rw[d]at a;cases a
 | some l=>
  rw[d]at a;simp only[Z5,C1]at a;subst a;exact(e j l d).tag
def celF(v:Value)(j:Nat):Value:=v.cells.toList.getD j undef
def cb.celF{Y:af}{ag:Option Nat}{cs:List C}{v:Value}(h:cb w S Y ag cs v):cs.length=ag.getD 1/\v=mkv ag (celF v)/\dn w S Y cs (celF v):=by
 obtain⟨b,u,c,d⟩:=h;have g:=qi (ag:=ag) (u:=u) (λe=>by subst e;exact d.one (by simp at b;omega));have f:∀j,j<ag.getD 1->Ab.celF v j=u j:=λj a=>by
  unfold Ab.celF;rw[c,g];simp[List.getD,a]
 exact⟨b,c.trans (iU λj a=>(f j a).symm),d.congr λj a=>f j ω⟩
def Tm(u:Nat->Nat->Value)(i:Nat):MA->AV
 | .val a cs=>.H (mh a) cs
 | .mut a cs=>.H (mh a) (Ah (u i) 0 cs)
 | .ptr cs=>.H .box cs
def AN{u:Nat->Nat->Value} : ∀{A:List MA}{vs:List Value}{V:Nat->af}(i:Nat),Qx w S V A vs->∀t,(lay (wW u i A) t=.dead)\/(∃m v,i<=t/\vs[t - i]? = some v/\A[t - i]? = some m/\lay (wW u i A) t=Tm u t m/\qD w S (V (t - i)) m v)
 | [],_,_,i,_,t=>.inl rfl
 | m::A,[],_,i,h,t=>h.elim
 | m::A,v::vs,V,i,h,t=>by
  have c:lay (wW u i (m::A)) t=bif Nat.beq t i then Tm u i m else lay (wW u (i+1) A) t:=by cases m<;>rfl
  rw[c];cases a:Nat.beq t i with
  | true=>
   have:=O2 a;subst this;exact .inr ⟨m,v,W3 _,by simp,by simp,rfl,by rw[Nat.sub_self];exact h.1⟩
  | false=>
   have d:t≠i:=λe=>by subst e;rw[Nat.beq_refl]at a;cases a
   rcases AN (i+1) h.2 t with b|⟨f,g,b,j,k,l,n⟩
   ·exact .inl b
   refine .inr ⟨f,g,ω,?_,?_,l,?_⟩
   ·rw[show t - i=(t - (i+1))+1 by omega];simpa using j
   ·rw[show t - i=(t - (i+1))+1 by omega];simpa using k
   rw[show t - i=(t - (i+1))+1 by omega];exact n
def Kr:∀{A:List MA}{vs:List Value}{V:Nat->af},Qx w S V A vs->A.length=vs.length
 | [],[],_,_=>rfl
 | _::_,_::_,_,h=>by simp[Kr h.2]
 | [],_::_,_,h=>h.elim
 | _::_,[],_,h=>h.elim
def Kh{p:Nat->Value} : ∀{A:List MA}{i:Nat}{q:Nat × Value},q∈KJ p i A->i<=q.1/\q.1<i+A.length/\q.2=p q.1
 | [],_,_,h=>by simp[KJ]at h
 | m::A,i,q,h=>by
  have a:q∈KJ p (i+1) A->i<=q.1/\q.1<i+(m::A).length/\q.2=p q.1:=λh=>by
   obtain⟨c,d,b⟩:=Kh h;exact⟨ω,by simp;omega,b⟩
  cases m with
  | ptr e=>
   rcases List.mem_cons.1 h with rfl|h
   ·exact⟨W3 _,by simp,rfl⟩
   exact a h
  | val=>exact a h
  | «mut»=>exact a h
def Kt{p:Nat->Value} : ∀{A:List MA}{i n:Nat}{cs:List C},A[n]? = some (.ptr cs)->(i+n,p (i+n))∈KJ p i A
 | [],_,n,_,h=>by simp at h
 | m::A,i,0,cs,h=>by simp at h;subst h;simp[KJ]
 | m::A,i,n+1,cs,h=>by
  have a:=Kt (p:=p) (i:=i+1) (show A[n]? = some (.ptr cs) by simpa using h);rw[show i+1+n=i+(n+1) by omega]at a;cases m with
  | ptr cs=>exact C6 _ a
  | val=>exact a
  | «mut»=>exact a
def T9(φ:Nat->af):Option (Option Nat)->af
 | some (some t)=>φ t
 | _=>NO
def D4{u:Nat->Value} : ∀{a:Nat}{cs xs b:List C},Tq u a cs xs b->cs.length=b.length/\∀(j:Nat)(c o:C),cs[j]? = some c->b[j]? = some o->∃y,(dS c=true->xs[j]? = some y)/\UM (u (a+j)) c y o
 | _,[],xs,b,h=>by simp only[Tq]at h;subst h;exact⟨rfl,λj c o h=>by simp at h⟩
 | _,_::_,[],_,h=>by simp only[Tq]at h
 | _,_::_,_::_,[],h=>by simp only[Tq]at h
 | a,p::cs,f::xs,q::b,h=>by
  simp only[Tq]at h;obtain⟨g,i⟩:=D4 h.2;refine⟨by simp[g],λj c o d e=>?_⟩;cases j with
  | zero=>simp at d e;subst d e;exact⟨f,λ_=>rfl,h.1⟩
  | succ j=>
   obtain⟨y,k,l⟩:=i j c o (by simpa using d) (by simpa using e);exact⟨y,λn=>by simpa using k n,by rw[show a+(j+1)=a+1+j by omega];exact l⟩
def Nj{S' Y F:af}{L:Nat->Value}{cs xs G:List C}{off:Nat}(g:bq S w w1)(n:∀b o,S b o->S' b o)(h:dn w S Y cs u)(h':dn w1 S' F xs L)(i:Tq u 0 cs (xs.drop off) G):dn w1 S' F G u:=by
 obtain⟨f,M,U,V⟩:=h;obtain⟨H,r,t,A⟩:=h';obtain⟨W,N⟩:=D4 i;refine⟨λj b o=>off+j<xs.length/\H (off+j) b o,λj c q=>?_,λj q b o i=>t _ i.1 b o i.2,λj X q O P b o i p=>A _ _ i.1 p.1 ω b o i.2 p.2⟩;have Q:=(X2.1 q).1;have k:cs[j]? = some cs[j]:=W2 ω;obtain⟨y,l,a⟩:=N j _ c k q;rw[Y7]at a;have d:=M j _ k;generalize cs[j]=B at k a d l;have keep:dS B=false->c=B->eY w1 S' (λb o=>off+j<xs.length/\H (off+j) b o) c (u j):=λR e=>by
  subst e;exact((d.bare (F':=NO) R).keep g (λ_ _ h=>h.elim)).mono n (λ_ _ h=>h.elim)
 cases B with
 | v Z=>exact keep rfl a
 | x=>exact keep rfl a
 | z=>exact keep rfl a
 | m es=>exact a.elim
 | it=>exact a.elim
 | s o J=>
  cases o with
  | U=>exact keep rfl a
  | tag z=>exact a.elim
  | own=>
   have l:=l rfl;rw[List.getElem?_drop]at l;have D:=(X2.1 l).1;simp only[UM]at a;split at a
   case h_2=>exact a.elim
   rename_i v' E;obtain⟨rfl,rfl⟩:=a;obtain⟨T,K⟩:=(r _ _ l).untag;rw[T]at K;exact K.mono (λ_ _ h=>h) (λb o h=>⟨D,h⟩)
def bo.backs{E:World}{S':af}{u:Nat->Nat->Value}(h:bo w0 M S0 N S' φ F a E)(e:bq S w E)(f:∀b o,S b o->S' b o):∀{A:List MA}{g:List (Nat × Nat)}{B:List MA}{vs:List Value}{V:Nat->af}{i:Nat},Qx w S V A vs->
  (∀j v,vs[j]? = some v->u (i+j)=celF v)->(∀j v cs,vs[j]? = some v->A[j]? = some (.ptr cs)->tvs a (i+j)=v)->iP u F i A g B->FD E S' (λn=>T9 φ (FJ i A g)[n]?) B vs
 | [],g,B,vs,V,i,l,q,r,c=>by
  cases vs with
  | cons _ _=>exact l.elim
  | nil=>cases B with
   | nil=>trivial
   | cons _ _=>simp only[iP]at c
 | m::A,[],B,vs,V,i,l,q,r,c=>by cases m<;>simp only[iP]at c
 | m::A,p::g,[],vs,V,i,l,q,r,c=>by cases m<;>simp only[iP]at c
 | m::A,p::g,G::B,[],V,i,l,q,r,c=>l.elim
 | m::A,p::g,G::B,v::vs,V,i,l,q,r,c=>by
  have next:iP u F (i+1) A g B->FD E S' (λn=>T9 φ (FJ (i+1) A g)[n]?) B vs:=λc=>
   bo.backs h e f l.2 (λj v H=>by rw[show i+1+j=i+(j+1) by omega];exact q (j+1) v (by simpa using H))
    (λj v cs H U=>by rw[show i+1+j=i+(j+1) by omega];exact r (j+1) v cs (by simpa using H) (by simpa using U)) c
  cases m with
  | val W cs=>
   cases G with
   | val C X=>simp only[iP]at c;exact⟨trivial,next c⟩
   | ptr=>simp only[iP]at c
   | «mut»=>simp only[iP]at c
  | «mut» W cs=>
   cases G with
   | val=>simp only[iP]at c
   | ptr=>simp only[iP]at c
   | «mut» C out=>
    simp only[iP]at c;obtain⟨⟨rfl,d⟩,J⟩:=c;refine⟨?_,next J⟩;have D:=cb.celF (show cb w S (V 0) C cs v from l.1);have K:u i=celF v:=q 0 v (by simp);have t:=h.slot p.1;cases y:F p.1 with
    | H k xs=>
     rw[y]at d t;simp only at d;rw[K]at d;obtain⟨P,Y,Q,L,R,T,O⟩:=t;refine⟨by rw[<-(D4 d).1];exact D.1,celF v,D.2.1,?_⟩;exact(Nj e f D.2.2 O d).mono (λ_ _ h=>h) (λb o c=>by simpa[FJ,T9] using L b o c)
    | _=>rw[y]at d;exact d.elim
  | ptr cs=>
   cases G with
   | val=>simp only[iP]at c
   | «mut»=>simp only[iP]at c
   | ptr out=>
    simp only[iP]at c;refine⟨?_,next c.2⟩;have D:tvs a i=v:=r 0 v cs (by simp) (by simp);have t:=h.slot i;cases y:F i with
    | H k xs=>
     cases k with
     | box=>
      rw[y]at c t;have:=c.1;simp only at this;subst this;rw[D]at t;obtain⟨P,Y,Q,L,R,T,O⟩:=t;exact⟨P,Y,λb o c=>by simpa[FJ,T9] using Q b o c,λb o c=>by simpa[FJ,T9] using L b o c,R,T,O⟩
     | _=>rw[y]at c;exact c.1.elim
    | _=>rw[y]at c;exact c.1.elim
def u9:∀{l:List (Option Nat)},HC l=true->∀(i a t c:Nat),i≠a->l[i]? = some (some t)->l[a]? = some (some c)->t≠c
 | [],_,i,a,t,c,_,h,_=>by simp at h
 | none::l,b,i,a,t,c,f,h,d=>by
  cases i with
  | zero=>simp at h
  | succ i=>cases a with
   | zero=>simp at d
   | succ a=>exact u9 (l:=l) b i a t c ω (by simpa using h) (by simpa using d)
 | some j::l,b,i,a,t,c,f,h,d=>by
  simp only[HC,I0]at b;have g:∀(n s:Nat),l[n]? = some (some s)->j≠s:=λn s k e=>by
   have:=V4.1 b.1 _ (I2 k);simp only[Bool.not_eq_true']at this;rw[e,Nat.beq_refl]at this;cases this
  cases i with
  | zero=>
   simp at h;subst h;cases a with
   | zero=>exact absurd rfl f
   | succ a=>exact g a c (by simpa using d)
  | succ i=>cases a with
   | zero=>simp at d;subst d;exact λe=>g i t (by simpa using h) e.symm
   | succ a=>exact u9 b.2 i a t c ω (by simpa using h) (by simpa using d)
def xD:∀{l:List (Option Nat)}{i t:Nat},l[i]? = some (some t)->t∈sles l
 | [],i,t,h=>by simp at h
 | none::l,i,t,h=>by
  cases i with
  | zero=>simp at h
  | succ i=>exact xD (l:=l) (i:=i) (by simpa using h)
 | some a::l,i,t,h=>by
  cases i with
  | zero=>simp at h;subst h;simp[sles]
  | succ i=>exact C6 _ (xD (l:=l) (i:=i) (by simpa using h))
def xp{φ:Nat->af}{x:Option (Option Nat)}{b o:Nat}(h:T9 φ x b o):∃t,x=some (some t)/\φ t b o:=by
 match x,h with
 | some (some t),h=>exact⟨t,rfl,h⟩
 | some none,h=>exact h.elim
 | none,h=>exact h.elim
def Lo{f : Nat}{E : Func}{c : Code}{sh : Bool}{A B : List MA}{k : Kd}{rcs : List C}{mo : List (Nat × List Nat)}{n : Nat}(Q : List (Nat × Nat))(hTE : ∀t i, TE t = some i -> bQ P t i)(hf : P.funcs[f]? = some E)(hn : (E.name == "runtime.NumGoroutine") = false)(a:E.body=some c){ck:Nat->Array Oper->Bool}{D:fD->Nat->Array Oper->((Nat->AV)->Prop)->(Nat->AV)->Prop}(hD:∀N,xG P N ck (D N))(hc:gv ck c=true)(hN:A.length+(E.ntmps - A.length)=n)(hok:HC (FJ 0 A Q)=true)(hsh:sh=true\/iD rcs)(hp:∀(u:Nat->Nat->Value)(p:Nat->Value),aw P TE ⟨n,KJ p 0 A,mo⟩ (D ⟨n,KJ p 0 A,mo⟩) c (Tv TE E.results.toList k rcs u A B Q) (lay (wW u 0 A))):aW P f sh A B k rcs:=by
 refine⟨⟨E,hf,hn,by rw[a];rfl⟩,λw S V r hS hV hVd hA=>?_⟩;have hlen:=Kr hA;refine calls_of_wp hf a ?_
 let u:Nat->Nat->Value:=λi=>celF (r.getD i undef)
 let p:Nat->Value:=λi=>r.getD i undef
 have htv:∀t v,r[t]? = some v->tvs {tmps:=r.toArray++Array.replicate (E.ntmps - r.toArray.size) undef,defers:=[]} t=v:=λt v l=>by
  have H:=(X2.1 l).1;simp only[tvs,V7];rw[Array.getElem?_append_left (by simpa using H)];simp only[List.getElem?_toArray];rw[l];rfl
 have hst:St w (λb o=>∃i,V i b o) S ⟨n,KJ p 0 A,mo⟩ (lay (wW u 0 A)) {tmps:=r.toArray++Array.replicate (E.ntmps - r.toArray.size) undef,defers:=[]} w:=by
  refine⟨S,V,λt=>?_,hVd,λt b o h=>(hV t b o h).2,λt b o h=>⟨(hV t b o h).1,.inr ⟨t,h⟩⟩,λ_ _ h=>h,λb o h=>⟨hS b o h,.inl h⟩,Cb _ _,by simp;omega,rfl,λq hq=>?_⟩
  ·rcases AN (u:=u) 0 hA t with J|⟨m,v,-,l,h2',G,U⟩
   ·rw[J];trivial
   rw[G];rw[Nat.sub_zero]at l U;rw[htv t v l];have hu:u t=celF v:=by show celF (r.getD t undef)=_;rw[List.getD,l];rfl
   cases m with
   | val O K=>exact(cb.mono (show cb w S NO O K v from U) (λ_ _ h=>h) (λ_ _ h=>h.elim)).slot
   | «mut» O K=>
    obtain⟨e1,e2,e3⟩:=cb.celF (show cb w S (V t) O K v from U);refine cb.slot ⟨by rw[pM];exact e1,celF v,e2,?_⟩;rw[hu];exact e3.tag
   | ptr K=>exact U
  obtain⟨-,J,l⟩:=Kh hq;rw[l];have H:q.1<r.length:=ω
  refine htv _ _ ?_;show r[q.1]? = some (r.getD q.1 undef);rw[List.getD,W2 H];rfl
 refine jz hTE (hD _) c hc _ _ _ _ w (hp u p) hst λe F' W y he hs'=>?_
 obtain⟨S',φ',h⟩:=hs';have fin:resA TE F' E.results.toList (sles (FJ 0 A Q)) (λsh K=>aV (kK sh) k K rcs (iP u F' 0 A Q B))->W.defers=[]/\∃v,(results E W.tmps).run P y=.ok v y/\(∃v',Ending.returned v=.returned v'/\bZ (λb o=>∃i,V i b o) w y/\∃(X:af)(Z:Nat->af)(S1:af),
     (∀b o,X b o->(∃i,V i b o)\/(b<y.heap.size/\w.heap.size<=b))/\(∀i b o,Z i b o->(∃i,V i b o)\/(b<y.heap.size/\w.heap.size<=b))/\
     (∀b o,S1 b o->(sh=true/\S b o)\/(∃i,V i b o)\/(b<y.heap.size/\w.heap.size<=b))/\
     (∀i i',i≠i'->∀b o,Z i b o->¬Z i' b o)/\(∀i b o,X b o->¬Z i b o)/\(∀b o,X b o->¬S1 b o)/\(∀i b o,Z i b o->¬S1 b o)/\
     gu y NO k rcs.length v'/\dn y S1 X rcs (cr y k v')/\FD y (λb o=>S b o\/S1 b o) Z B r):=by
  intro hr;obtain⟨shs,K,d,u',hfin,hrun,M,hln,hL,hcells,L,hrow⟩:=h.resA hTE hr;obtain⟨rfl,rfl,R⟩:=hfin.out;refine⟨h.defers,?_⟩;have T:(results E W.tmps).run P y=.ok (if h:d.toArray.size=1 then d.toArray[0] else .tuple d.toArray) y:=by
   have e:results E W.tmps=(do let r <-E.results.mapM (FW W.tmps);pure (if h:r.size=1 then r[0] else .tuple r)):=by
    unfold results
    congr 1
   rw[e,<-Array.toArray_toList (xs:=E.results),List.mapM_toArray];simp only[Sem.run_bind,Sem.run_map,hrun,Result.andThen_ok,Sem.run_pure]
  have hex:∀t b o,φ' t b o->(∃i,V i b o)\/(b<y.heap.size/\w.heap.size<=b):=λt b o a=>(h.ex t b o a).2.elim (λh'=>.inr ⟨(h.ex t b o a).1,h'⟩) .inl
  have hsameS:bq S w y:=λb o a=>by
   have H:=hS b o a;exact⟨h.old.cel b o H (λ⟨i,hi⟩=>(hV i b o hi).2 a),h.old.fro b o H (λ⟨i,hi⟩=>(hV i b o hi).2 a)⟩
  have hm:=h.backs (u:=u) hsameS h.sub hA (λj v hj=>by show celF (r.getD (0+j) undef)=_;rw[Y7,List.getD,hj];rfl) (λj v K hj hc=>by
    have:=h.par _ (Kt (p:=p) (i:=0) hc);rw[this];show r.getD (0+j) undef=v;rw[Y7,List.getD,hj];rfl) R
  refine⟨_,T,_,rfl,h.old,λb o=>∃t,t∉sles (FJ 0 A Q)/\φ' t b o,λi=>T9 φ' (FJ 0 A Q)[i]?,λb o=>(sh=true/\S' b o)\/(S' b o/\((∃i,V i b o)\/w.heap.size<=b)),λb o ⟨t,_,a⟩=>hex t b o a,λi b o a=>?_,λb o a=>?_,λi i' hne b o a g=>?_,λi b o ⟨t,ht,a⟩ g=>?_,λb o ⟨t,_,a⟩ g=>h.disS t b o a (g.elim (·.2) (·.1)),λi b o a g=>?_,?_⟩
  ·obtain⟨t,-,a⟩:=xp a
   exact hex t b o a
  ·rcases a with⟨J,l⟩|⟨J,l⟩
   ·rcases(h.sup b o l).2 with G|G|G
    ·exact .inl ⟨J,G⟩
    ·exact .inr (.inr ⟨(h.sup b o l).1,G⟩)
    exact .inr (.inl G)
   rcases l with l|l
   ·exact .inr (.inl l)
   exact .inr (.inr ⟨(h.sup b o J).1,l⟩)
  ·obtain⟨t,e1,a⟩:=xp a
   obtain⟨t',e2,g⟩:=xp g;exact h.dis t t' (u9 hok i i' t t' hne e1 e2) b o a g
  ·obtain⟨t',e2,g⟩:=xp g
   exact h.dis t t' (λe=>ht (by rw[e];exact xD e2)) b o a g
  ·obtain⟨t,-,a⟩:=xp a
   exact h.disS t b o a (g.elim (·.2) (·.1))
  have hk:gu y NO (kK shs) K.length (if h:d.toArray.size=1 then d.toArray[0] else .tuple d.toArray)/\dn y S' (λb o=>∃t,t∉sles (FJ 0 A Q)/\φ' t b o) K (cr y (kK shs) (if h:d.toArray.size=1 then d.toArray[0] else .tuple d.toArray)):=by
   match shs,M,L,hL with
   | [],M,_,hL=>
    cases d with
    | cons _ _=>exact M.elim
    | nil=>
     have:K=[]:=O8 (by simpa[qP] using hL.symm);subst this;exact⟨⟨_,rfl,trivial,rfl⟩,dn.nil _ _ _ _⟩
   | [O],_,L,_=>
    obtain⟨v,rfl,hv⟩:=L O rfl;have:=hv.slot (F:=F') (tv:=tvs W);obtain⟨X1,Y,J,l,G,U,h5⟩:=this;refine⟨?_,h5.mono (λ_ _ h=>h) l⟩;cases O<;>exact U
   | O::ag2::sh,M,_,hL=>
    have hsz:¬d.toArray.size=1:=by
     match d,M with
     | [],M=>simp
     | [v],M=>cases O<;>cases ag2<;>exact M.2.elim
     | _::_::_,_=>simp
    rw[dif_neg hsz];refine⟨⟨_,rfl,M,hL⟩,hrow.congr λj hj=>?_⟩;simp only[cr,kK,ny,hcells];simp[List.getD,hj]
  refine⟨hk.1,?_,hm.mono λb o a=>?_⟩
  ·rcases hsh with J|J
   ·exact hk.2.mono (λb o a=>.inl ⟨J,a⟩) (λ_ _ h=>h)
   exact(hk.2.fresh J).mono (λ_ _ h=>h.elim) (λ_ _ h=>h)
  rcases(h.sup b o a).2 with G|G|G
  ·exact .inl G
  ·exact .inr (.inr ⟨a,.inr G⟩)
  exact .inr (.inr ⟨a,.inl G⟩)
 cases e with
 | normal=>exact fin he
 | ret=>exact fin he
 | _=>exact he.elim
end
abbrev I(z:Int):C:=.v (.int .i64 z)
abbrev B(b:Bool):C:=.v (.bool b)
def rI(_:dN)(z:Int):List C:=[I z]
def rB(_:dN)(b:Bool):List C:=[B b]
def pX(z:Int):iD (rI .own z):=⟨trivial,trivial⟩
def Bz(b:Bool):iD (rB .own b):=⟨trivial,trivial⟩
def n9(z:Int):Prop:=-9223372036854775808<=z/\z<=9223372036854775807
def UW(_:Bool):Prop:=True
def rN : Tryz.prog.follows .mixedOrders=true:=by kernel_rfl
variable{tb: List (Nat × Nat × List Nat)}{rcs: List C}{A: List RA}{sh: Bool}{c: Code}{mo: List (Nat × List Nat)}{n f: Nat}
def Uz{a : Func}(d : Tryz.prog.funcs[f]? = some a)(e : (a.name == "runtime.NumGoroutine") = false)(g : a.body = some c)(h : gv (nX tb) c = true)(i:A.length+(a.ntmps - A.length)=n)(b:sh=true\/iD rcs)(j:aw Tryz.prog TE ⟨n,[],mo⟩ (DF Tryz.prog TE ⟨n,[],mo⟩ tb) c (QW TE a.results.toList k rcs) (lay (wd 0 A))):zzA f sh A k rcs:=
 Me B8 d e g (rX B8 rN ⟨n,[],mo⟩ tb) h i rfl b j
def Ur{a : Func}{A B : List MA}(b : List (Nat × Nat))(g : Tryz.prog.funcs[f]? = some a)(h : (a.name == "runtime.NumGoroutine") = false)(i : a.body = some c)(j : gv (nX tb) c = true)(l:A.length+(a.ntmps - A.length)=n)(d:HC (FJ 0 A b)=true)(e:sh=true\/iD rcs)(o:∀(u:Nat->Nat->Value)(p:Nat->Value),aw Tryz.prog TE ⟨n,KJ p 0 A,mo⟩ (DF Tryz.prog TE ⟨n,KJ p 0 A,mo⟩ tb) c (Tv TE a.results.toList k rcs u A B b) (lay (wW u 0 A))):zzB f sh A B k rcs:=
 Lo b B8 g h i (λN=>rX B8 rN N tb) j l d e o
def U6{t: Nat}{a : Func}(b : Tryz.prog.funcs[f]? = some a)(d : (a.name == "runtime.NumGoroutine") = false)(e : a.body = some c)(g : gv (nX tb) c = true)(h:A.length+(a.ntmps - A.length)=n)(i:a.results = #[.tmp t])(j:aw Tryz.prog TE ⟨n,[],mo⟩ (DF Tryz.prog TE ⟨n,[],mo⟩ tb) c (UB t rcs) (lay (wd 0 A))):rP Tryz.prog f true A .box rcs:=
 KQ B8 b d e (rX B8 rN ⟨n,[],mo⟩ tb) g h rfl i j
variable{x:Int}
def eZ(h1 : -9223372036854775808<=x)(a:x<=9223372036854775807):IntKind.i64.wrap x=x:=IntWalk.i64_in x (by constructor<;>assumption)
def Ph:RA->RA->Prop
 | .val ag cs,.val ag' cs'=>ag=ag'/\cs=cs'
 | .ptr cs,.ptr cs'=>cs=cs'
 | A,a=>A=a
def Ph.eq{A a:RA}(h:Ph A a):A=a:=by
 unfold Ph at h;split at h
 ·obtain⟨rfl,rfl⟩:=h;rfl
 ·rw[h]
 exact h
def FM:List RA->List RA->Prop
 | [],[]=>True
 | A::As,B::Bs=>Ph A B/\FM As Bs
 | _,_=>False
def FM.eq:∀{A a:List RA},FM A a->A=a
 | [],[],_=>rfl
 | A::As,B::Bs,h=>by rw[Ph.eq h.1,FM.eq h.2]
 | [],_::_,h=>h.elim
 | _::_,[],h=>h.elim
def Cl.eq{P:Program}{b:Bool}{a:List RA}{K:AV->Prop}(h:ar P f false a k rcs)(c:FM A a)(d:K (.H k rcs)):Cl P f b A K:=by rw[c.eq];exact C9 h d
def CL:type_of% @Cl.eq:=@Cl.eq
def wZ{b:Nat}(h:n<=1048576)(a:b<=1000):n*b<=140737488355328:=O5 (Nat.mul_le_mul h a) (by decide)
variable{X Y:Prop}
def Bf.NB{a b:Bool}(h1:a≠b->X)(c:a=b->Y):Bf (a != b) X Y:=by
 refine Bf.P (λh=>h1 ?_) (λh=>c ?_)
 ·simpa using h
 simpa using h
variable{i j:Nat}
def Rw.one{a:List C}{off k:Nat}{K:List C->Nat->Prop}{o:dN}{rows:List (List C)}{r:List C}(h1:a[off]? = some (.s o rows))(b:rows[i]? = some r)(c:r.length=k)(d:K r j):Rw a off [(i,k,j)] K:=
 Rw.mk (r:=r) (j:=j) (by simp[cn,h1,b,c]) d
def CJ:type_of% @Rw.one:=@Rw.one
section
variable{α:Type}{A B:List α}
end
variable{α β:Type}
def aa{f:α->β}{l:List α}{k:Nat}{x:α}(h:l[k]? = some x):(l.map f)[k]? = some (f x):=by simp[h]
def aD(o:dN)(x:List Int):List C:=[.s o (x.map (rI o))]
def d8(x:List Int):eH (aD .own x)=aD .U x:=by simp[eH,aD,rI,eH]
def bG(x:List Int):iD (aD .own x):=⟨⟨.inl λh=>(by cases h),bj _ _ λy _=>pX y⟩,trivial⟩
def jN(x:List Int):Prop:=x.length<=9223372036854775807/\∀y∈x,n9 y
def sN(x:List Int):Prop:=x.length<=1048576
def f9(o:dN)(x:List (List Int)):List C:=[.s o (x.map (aD o))]
def Ul(x:List (List Int)):eH (f9 .own x)=f9 .U x:=by simp[eH,f9,d8,<-co,X6]
def Ed(x:List (List Int)):Prop:=x.length<=9223372036854775807/\∀y∈x,jN y
def xo(x:List (List Int)):Prop:=x.length<=1048576/\∀y∈x,sN y
def iu(o:dN)(x:List Bool):List C:=[.s o (x.map (rB o))]
def Lx(x:List Bool):iD (iu .own x):=⟨⟨.inl λh=>(by cases h),bj _ _ λy _=>Bz y⟩,trivial⟩
def RL(x:List Bool):Prop:=x.length<=9223372036854775807/\∀y∈x,UW y
def Pp(x:List Bool):Prop:=x.length<=1048576
structure aU where
 T:List (List Int)
 a6:List Bool
deriving DecidableEq,Inhabited
def aU.enc(o:dN)(x:aU):List C:=[.s o (x.T.map (aD o)),.s o (x.a6.map (rB o))]
def aU.enc_fz(x:aU):eH (aU.enc .own x)=aU.enc .U x:=by simp[eH,aU.enc,rB,d8,<-co,X6]
def aU.enc_fr(x:aU):iD (aU.enc .own x):=⟨⟨.inl λh=>(by cases h),bj _ _ λy _=>bG y⟩,⟨.inl λh=>(by cases h),bj _ _ λy _=>Bz y⟩,trivial⟩
def aU.wf(x:aU):Prop:=Ed x.T/\RL x.a6
def aU.sml(x:aU):Prop:=xo x.T/\Pp x.a6
structure bk where
 e:Int
 j:Int
deriving DecidableEq,Inhabited
def bk.enc(o:dN)(x:bk):List C:=[I x.e,I x.j]
def bk.enc_fz(x:bk):eH (bk.enc .own x)=bk.enc .U x:=by simp[eH,bk.enc]
def bk.enc_fr(x:bk):iD (bk.enc .own x):=⟨trivial,trivial,trivial⟩
def bk.wf(x:bk):Prop:=n9 x.e/\n9 x.j
def bk.sml(_:bk):Prop:=True
def lL(o:dN)(x:List bk):List C:=[.s o (x.map (bk.enc o))]
def LY(x:List bk):Prop:=x.length<=9223372036854775807/\∀y∈x,bk.wf y
def HE(x:List bk):Prop:=x.length<=1048576/\∀y∈x,bk.sml y
structure aH where
 J:List bk
deriving DecidableEq,Inhabited
def aH.enc(o:dN)(x:aH):List C:=[.s o (x.J.map (bk.enc o))]
def aH.enc_fz(x:aH):eH (aH.enc .own x)=aH.enc .U x:=by simp[eH,aH.enc,bk.enc_fz,<-co,X6]
def Cc:type_of% @aH.enc_fz:=@aH.enc_fz
def aH.enc_fr(x:aH):iD (aH.enc .own x):=⟨⟨.inl λh=>(by cases h),bj _ _ λy _=>bk.enc_fr y⟩,trivial⟩
def aH.wf(x:aH):Prop:=LY x.J
def aH.sml(x:aH):Prop:=HE x.J
structure aR where
 W:aU
 R:aH
deriving DecidableEq,Inhabited
def aR.enc(o:dN)(x:aR):List C:=[.s o (x.W.T.map (aD o)),.s o (x.W.a6.map (rB o)),.s o (x.R.J.map (bk.enc o))]
def aR.enc_fz(x:aR):eH (aR.enc .own x)=aR.enc .U x:=by simp[eH,aR.enc,bk.enc_fz,rB,d8,<-co,X6]
def aR.enc_fr(x:aR):iD (aR.enc .own x):=⟨⟨.inl λh=>(by cases h),bj _ _ λy _=>bG y⟩,⟨.inl λh=>(by cases h),bj _ _ λy _=>Bz y⟩,⟨.inl λh=>(by cases h),bj _ _ λy _=>bk.enc_fr y⟩,trivial⟩
def aR.wf(x:aR):Prop:=aU.wf x.W/\aH.wf x.R
def aR.sml(x:aR):Prop:=aU.sml x.W/\aH.sml x.R
structure ah where
 F:aR
 Calls:Int
 a0:List Int
deriving DecidableEq,Inhabited
def ah.enc(o:dN)(x:ah):List C:=[.s o (x.F.W.T.map (aD o)),.s o (x.F.W.a6.map (rB o)),.s o (x.F.R.J.map (bk.enc o)),I x.Calls,.s o (x.a0.map (rI o))]
def ah.enc_fz(x:ah):eH (ah.enc .own x)=ah.enc .U x:=by simp[eH,ah.enc,bk.enc_fz,rB,rI,d8,<-co,X6]
def CV:type_of% @ah.enc_fz:=@ah.enc_fz
def ah.enc_fr(x:ah):iD (ah.enc .own x):=⟨⟨.inl λh=>(by cases h),bj _ _ λy _=>bG y⟩,⟨.inl λh=>(by cases h),bj _ _ λy _=>Bz y⟩,⟨.inl λh=>(by cases h),bj _ _ λy _=>bk.enc_fr y⟩,trivial,⟨.inl λh=>(by cases h),bj _ _ λy _=>pX y⟩,trivial⟩
def ah.wf(x:ah):Prop:=aR.wf x.F/\n9 x.Calls/\jN x.a0
def ah.sml(x:ah):Prop:=aR.sml x.F/\sN x.a0
structure aB where
 At:Int
 b0:Int
deriving DecidableEq,Inhabited
def aB.enc(o:dN)(x:aB):List C:=[I x.At,I x.b0]
def aB.enc_fz(x:aB):eH (aB.enc .own x)=aB.enc .U x:=by simp[eH,aB.enc]
def aB.enc_fr(x:aB):iD (aB.enc .own x):=⟨trivial,trivial,trivial⟩
def aB.wf(x:aB):Prop:=n9 x.At/\n9 x.b0
def aB.sml(_:aB):Prop:=True
def bB(o:dN)(x:List aB):List C:=[.s o (x.map (aB.enc o))]
def eN(x:List aB):eH (bB .own x)=bB .U x:=by simp[eH,bB,aB.enc_fz,<-co,X6]
def mA(x:List aB):iD (bB .own x):=⟨⟨.inl λh=>(by cases h),bj _ _ λy _=>aB.enc_fr y⟩,trivial⟩
def LC(x:List aB):Prop:=x.length<=9223372036854775807/\∀y∈x,aB.wf y
def iH(x:List aB):Prop:=x.length<=1048576/\∀y∈x,aB.sml y
structure ax where
 Q:Int
 a:Int
 b1:Int
deriving DecidableEq,Inhabited
def ax.enc(o:dN)(x:ax):List C:=[I x.Q,I x.a,I x.b1]
def ax.enc_fz(x:ax):eH (ax.enc .own x)=ax.enc .U x:=by simp[eH,ax.enc]
def ax.enc_fr(x:ax):iD (ax.enc .own x):=⟨trivial,trivial,trivial,trivial⟩
def ax.wf(x:ax):Prop:=n9 x.Q/\n9 x.a/\n9 x.b1
def ax.sml(_:ax):Prop:=True
def bT(o:dN)(x:List ax):List C:=[.s o (x.map (ax.enc o))]
def xJ(x:List ax):eH (bT .own x)=bT .U x:=by simp[eH,bT,ax.enc_fz,<-co,X6]
def HG(x:List ax):iD (bT .own x):=⟨⟨.inl λh=>(by cases h),bj _ _ λy _=>ax.enc_fr y⟩,trivial⟩
def N2(x:List ax):Prop:=x.length<=9223372036854775807/\∀y∈x,ax.wf y
def dK(x:List ax):Prop:=x.length<=1048576/\∀y∈x,ax.sml y
structure a7 where
 Q:Int
 a1:Int
 o:Int
deriving DecidableEq,Inhabited
def a7.enc(o:dN)(x:a7):List C:=[I x.Q,I x.a1,I x.o]
def a7.enc_fz(x:a7):eH (a7.enc .own x)=a7.enc .U x:=by simp[eH,a7.enc]
def a7.enc_fr(x:a7):iD (a7.enc .own x):=⟨trivial,trivial,trivial,trivial⟩
def a7.wf(x:a7):Prop:=n9 x.Q/\n9 x.a1/\n9 x.o
def a7.sml(_:a7):Prop:=True
def bJ(o:dN)(x:List a7):List C:=[.s o (x.map (a7.enc o))]
def EX(x:List a7):eH (bJ .own x)=bJ .U x:=by simp[eH,bJ,a7.enc_fz,<-co,X6]
def LN(x:List a7):Prop:=x.length<=9223372036854775807/\∀y∈x,a7.wf y
def dG(x:List a7):Prop:=x.length<=1048576/\∀y∈x,a7.sml y
structure bn where
 Id:Int
 Addr:Int
 o:Int
 a4:Int
deriving DecidableEq,Inhabited
def bn.enc(o:dN)(x:bn):List C:=[I x.Id,I x.Addr,I x.o,I x.a4]
def bn.enc_fz(x:bn):eH (bn.enc .own x)=bn.enc .U x:=by simp[eH,bn.enc]
def bn.enc_fr(x:bn):iD (bn.enc .own x):=⟨trivial,trivial,trivial,trivial,trivial⟩
def bn.wf(x:bn):Prop:=n9 x.Id/\n9 x.Addr/\n9 x.o/\n9 x.a4
def bn.sml(_:bn):Prop:=True
def jF(o:dN)(x:List bn):List C:=[.s o (x.map (bn.enc o))]
def KT(x:List bn):eH (jF .own x)=jF .U x:=by simp[eH,jF,bn.enc_fz,<-co,X6]
def Q4(x:List bn):Prop:=x.length<=9223372036854775807/\∀y∈x,bn.wf y
def NN(x:List bn):Prop:=x.length<=1048576/\∀y∈x,bn.sml y
structure a8 where
 b:List (List Int)
deriving DecidableEq,Inhabited
def a8.enc(o:dN)(x:a8):List C:=[.s o (x.b.map (aD o))]
def a8.enc_fz(x:a8):eH (a8.enc .own x)=a8.enc .U x:=by simp[eH,a8.enc,d8,<-co,X6]
def a8.enc_fr(x:a8):iD (a8.enc .own x):=⟨⟨.inl λh=>(by cases h),bj _ _ λy _=>bG y⟩,trivial⟩
def a8.wf(x:a8):Prop:=Ed x.b
def a8.sml(x:a8):Prop:=xo x.b
def fS(o:dN)(x:List a8):List C:=[.s o (x.map (a8.enc o))]
def L9(x:List a8):Prop:=x.length<=9223372036854775807/\∀y∈x,a8.wf y
def Jv(x:List a8):Prop:=x.length<=1048576/\∀y∈x,a8.sml y
structure dw where
 To:Int
 Addr:Int
deriving DecidableEq,Inhabited
def dw.enc(o:dN)(x:dw):List C:=[I x.To,I x.Addr]
def dw.enc_fz(x:dw):eH (dw.enc .own x)=dw.enc .U x:=by simp[eH,dw.enc]
def dw.enc_fr(x:dw):iD (dw.enc .own x):=⟨trivial,trivial,trivial⟩
def dw.wf(x:dw):Prop:=n9 x.To/\n9 x.Addr
def dw.sml(_:dw):Prop:=True
def cF(o:dN)(x:List dw):List C:=[.s o (x.map (dw.enc o))]
def o7(x:List dw):eH (cF .own x)=cF .U x:=by simp[eH,cF,dw.enc_fz,<-co,X6]
def rJ(x:List dw):iD (cF .own x):=⟨⟨.inl λh=>(by cases h),bj _ _ λy _=>dw.enc_fr y⟩,trivial⟩
def P8(x:List dw):Prop:=x.length<=9223372036854775807/\∀y∈x,dw.wf y
def LT(x:List dw):Prop:=x.length<=1048576/\∀y∈x,dw.sml y
def lS(o:dN)(x:List (List dw)):List C:=[.s o (x.map (cF o))]
def Mp(x:List (List dw)):Prop:=x.length<=9223372036854775807/\∀y∈x,P8 y
def HL(x:List (List dw)):Prop:=x.length<=1048576/\∀y∈x,LT y
structure aL where
 V:List (List dw)
 y:List (List Int)
deriving DecidableEq,Inhabited
def aL.enc(o:dN)(x:aL):List C:=[.s o (x.V.map (cF o)),.s o (x.y.map (aD o))]
def aL.enc_fz(x:aL):eH (aL.enc .own x)=aL.enc .U x:=by simp[eH,aL.enc,o7,d8,<-co,X6]
def aL.enc_fr(x:aL):iD (aL.enc .own x):=⟨⟨.inl λh=>(by cases h),bj _ _ λy _=>rJ y⟩,⟨.inl λh=>(by cases h),bj _ _ λy _=>bG y⟩,trivial⟩
def aL.wf(x:aL):Prop:=Mp x.V/\Ed x.y
def aL.sml(x:aL):Prop:=HL x.V/\xo x.y
structure aN where
 Addr:Int
 a:Int
 b7:Int
deriving DecidableEq,Inhabited
def aN.enc(o:dN)(x:aN):List C:=[I x.Addr,I x.a,I x.b7]
def aN.enc_fz(x:aN):eH (aN.enc .own x)=aN.enc .U x:=by simp[eH,aN.enc]
def aN.enc_fr(x:aN):iD (aN.enc .own x):=⟨trivial,trivial,trivial,trivial⟩
def aN.wf(x:aN):Prop:=n9 x.Addr/\n9 x.a/\n9 x.b7
def aN.sml(_:aN):Prop:=True
def cx(o:dN)(x:List aN):List C:=[.s o (x.map (aN.enc o))]
def EM(x:List aN):eH (cx .own x)=cx .U x:=by simp[eH,cx,aN.enc_fz,<-co,X6]
def vD(x:List aN):iD (cx .own x):=⟨⟨.inl λh=>(by cases h),bj _ _ λy _=>aN.enc_fr y⟩,trivial⟩
def LF(x:List aN):Prop:=x.length<=9223372036854775807/\∀y∈x,aN.wf y
def lO(x:List aN):Prop:=x.length<=1048576/\∀y∈x,aN.sml y
structure bM where
 c1:Int
 a5:List aN
deriving DecidableEq,Inhabited
def bM.enc(o:dN)(x:bM):List C:=[I x.c1,.s o (x.a5.map (aN.enc o))]
def bM.enc_fz(x:bM):eH (bM.enc .own x)=bM.enc .U x:=by simp[eH,bM.enc,aN.enc_fz,<-co,X6]
def bM.enc_fr(x:bM):iD (bM.enc .own x):=⟨trivial,⟨.inl λh=>(by cases h),bj _ _ λy _=>aN.enc_fr y⟩,trivial⟩
def bM.wf(x:bM):Prop:=n9 x.c1/\LF x.a5
def bM.sml(x:bM):Prop:=lO x.a5
structure cJ where
 a3:Int
 a2:Int
 T:List Int
deriving DecidableEq,Inhabited
def cJ.enc(o:dN)(x:cJ):List C:=[I x.a3,I x.a2,.s o (x.T.map (rI o))]
def cJ.enc_fz(x:cJ):eH (cJ.enc .own x)=cJ.enc .U x:=by simp[eH,cJ.enc,rI,<-co,X6]
def cJ.enc_fr(x:cJ):iD (cJ.enc .own x):=⟨trivial,trivial,⟨.inl λh=>(by cases h),bj _ _ λy _=>pX y⟩,trivial⟩
def cJ.wf(x:cJ):Prop:=n9 x.a3/\n9 x.a2/\jN x.T
def cJ.sml(x:cJ):Prop:=sN x.T
structure cA where
 X:cJ
 b2:Int
 d:Int
deriving DecidableEq,Inhabited
def cA.enc(o:dN)(x:cA):List C:=[I x.X.a3,I x.X.a2,.s o (x.X.T.map (rI o)),I x.b2,I x.d]
def cA.enc_fz(x:cA):eH (cA.enc .own x)=cA.enc .U x:=by simp[eH,cA.enc,rI,<-co,X6]
def cA.enc_fr(x:cA):iD (cA.enc .own x):=⟨trivial,trivial,⟨.inl λh=>(by cases h),bj _ _ λy _=>pX y⟩,trivial,trivial,trivial⟩
def cA.wf(x:cA):Prop:=cJ.wf x.X/\n9 x.b2/\n9 x.d
def cA.sml(x:cA):Prop:=cJ.sml x.X
structure ab where
 G:ah
 w:List aB
 K:List ax
 M:List a7
 O:List bn
 S:List a8
 q:aL
 a9:bM
 c0:Int
 b5:Int
 c4:Int
 d:Int
 u:Bool
 Z:cA
deriving DecidableEq,Inhabited
def ab.enc(o:dN)(x:ab):List C:=[.s o (x.G.F.W.T.map (aD o)),.s o (x.G.F.W.a6.map (rB o)),.s o (x.G.F.R.J.map (bk.enc o)),I x.G.Calls,.s o (x.G.a0.map (rI o)),.s o (x.w.map (aB.enc o)),.s o (x.K.map (ax.enc o)),.s o (x.M.map (a7.enc o)),.s o (x.O.map (bn.enc o)),.s o (x.S.map (a8.enc o)),.s o (x.q.V.map (cF o)),.s o (x.q.y.map (aD o)),I x.a9.c1,.s o (x.a9.a5.map (aN.enc o)),I x.c0,I x.b5,I x.c4,I x.d,B x.u,I x.Z.X.a3,I x.Z.X.a2,.s o (x.Z.X.T.map (rI o)),I x.Z.b2,I x.Z.d]
def ab.enc_fz(x:ab):eH (ab.enc .own x)=ab.enc .U x:=by simp[eH,ab.enc,a8.enc_fz,bk.enc_fz,a7.enc_fz,bn.enc_fz,aB.enc_fz,ax.enc_fz,aN.enc_fz,rB,o7,rI,d8,<-co,X6]
def ab.enc_fr(x:ab):iD (ab.enc .own x):=⟨⟨.inl λh=>(by cases h),bj _ _ λy _=>bG y⟩,⟨.inl λh=>(by cases h),bj _ _ λy _=>Bz y⟩,⟨.inl λh=>(by cases h),bj _ _ λy _=>bk.enc_fr y⟩,trivial,⟨.inl λh=>(by cases h),bj _ _ λy _=>pX y⟩,⟨.inl λh=>(by cases h),bj _ _ λy _=>aB.enc_fr y⟩,⟨.inl λh=>(by cases h),bj _ _ λy _=>ax.enc_fr y⟩,⟨.inl λh=>(by cases h),bj _ _ λy _=>a7.enc_fr y⟩,⟨.inl λh=>(by cases h),bj _ _ λy _=>bn.enc_fr y⟩,⟨.inl λh=>(by cases h),bj _ _ λy _=>a8.enc_fr y⟩,⟨.inl λh=>(by cases h),bj _ _ λy _=>rJ y⟩,⟨.inl λh=>(by cases h),bj _ _ λy _=>bG y⟩,trivial,⟨.inl λh=>(by cases h),bj _ _ λy _=>aN.enc_fr y⟩,trivial,trivial,trivial,trivial,trivial,trivial,trivial,⟨.inl λh=>(by cases h),bj _ _ λy _=>pX y⟩,trivial,trivial,trivial⟩
def ab.wf(x:ab):Prop:=ah.wf x.G/\LC x.w/\N2 x.K/\LN x.M/\Q4 x.O/\L9 x.S/\aL.wf x.q/\bM.wf x.a9/\n9 x.c0/\n9 x.b5/\n9 x.c4/\n9 x.d/\UW x.u/\cA.wf x.Z
def ab.sml(x:ab):Prop:=ah.sml x.G/\iH x.w/\dK x.K/\dG x.M/\NN x.O/\Jv x.S/\aL.sml x.q/\bM.sml x.a9/\cA.sml x.Z
structure jK where
 b6:Int
 c5:Int
 e0:Int
 c9:Int
deriving DecidableEq,Inhabited
def jK.enc(o:dN)(x:jK):List C:=[I x.b6,I x.c5,I x.e0,I x.c9]
def jK.enc_fr(x:jK):iD (jK.enc .own x):=⟨trivial,trivial,trivial,trivial,trivial⟩
structure Kj where
 Id:Int
 o:Int
 Sum:Int
deriving DecidableEq,Inhabited
structure aX where
 Id:Int
 T:List Int
deriving DecidableEq,Inhabited
def aX.enc(o:dN)(x:aX):List C:=[I x.Id,.s o (x.T.map (rI o))]
def aX.enc_fz(x:aX):eH (aX.enc .own x)=aX.enc .U x:=by simp[eH,aX.enc,rI,<-co,X6]
def aX.enc_fr(x:aX):iD (aX.enc .own x):=⟨trivial,⟨.inl λh=>(by cases h),bj _ _ λy _=>pX y⟩,trivial⟩
def aX.sml(x:aX):Prop:=sN x.T
def Lv(o:dN)(x:List aX):List C:=[.s o (x.map (aX.enc o))]
def GG(x:List aX):Prop:=x.length<=1048576/\∀y∈x,aX.sml y
structure ay where
 d:Int
 O:List aX
deriving DecidableEq,Inhabited
def ay.enc(o:dN)(x:ay):List C:=[I x.d,.s o (x.O.map (aX.enc o))]
def ay.enc_fz(x:ay):eH (ay.enc .own x)=ay.enc .U x:=by simp[eH,ay.enc,aX.enc_fz,<-co,X6]
def Ce:type_of% @ay.enc_fz:=@ay.enc_fz
def ay.enc_fr(x:ay):iD (ay.enc .own x):=⟨trivial,⟨.inl λh=>(by cases h),bj _ _ λy _=>aX.enc_fr y⟩,trivial⟩
def ay.sml(x:ay):Prop:=GG x.O
structure aQ where
 Y:ab
 b3:ay
deriving DecidableEq,Inhabited
def aQ.enc(o:dN)(x:aQ):List C:=[.s o (x.Y.G.F.W.T.map (aD o)),.s o (x.Y.G.F.W.a6.map (rB o)),.s o (x.Y.G.F.R.J.map (bk.enc o)),I x.Y.G.Calls,.s o (x.Y.G.a0.map (rI o)),.s o (x.Y.w.map (aB.enc o)),.s o (x.Y.K.map (ax.enc o)),.s o (x.Y.M.map (a7.enc o)),.s o (x.Y.O.map (bn.enc o)),.s o (x.Y.S.map (a8.enc o)),.s o (x.Y.q.V.map (cF o)),.s o (x.Y.q.y.map (aD o)),I x.Y.a9.c1,.s o (x.Y.a9.a5.map (aN.enc o)),I x.Y.c0,I x.Y.b5,I x.Y.c4,I x.Y.d,B x.Y.u,I x.Y.Z.X.a3,I x.Y.Z.X.a2,.s o (x.Y.Z.X.T.map (rI o)),I x.Y.Z.b2,I x.Y.Z.d,I x.b3.d,.s o (x.b3.O.map (aX.enc o))]
def aQ.enc_fz(x:aQ):eH (aQ.enc .own x)=aQ.enc .U x:=by simp[eH,aQ.enc,a8.enc_fz,bk.enc_fz,a7.enc_fz,bn.enc_fz,aB.enc_fz,aX.enc_fz,ax.enc_fz,aN.enc_fz,rB,o7,rI,d8,<-co,X6]
def aQ.enc_fr(x:aQ):iD (aQ.enc .own x):=⟨⟨.inl λh=>(by cases h),bj _ _ λy _=>bG y⟩,⟨.inl λh=>(by cases h),bj _ _ λy _=>Bz y⟩,⟨.inl λh=>(by cases h),bj _ _ λy _=>bk.enc_fr y⟩,trivial,⟨.inl λh=>(by cases h),bj _ _ λy _=>pX y⟩,⟨.inl λh=>(by cases h),bj _ _ λy _=>aB.enc_fr y⟩,⟨.inl λh=>(by cases h),bj _ _ λy _=>ax.enc_fr y⟩,⟨.inl λh=>(by cases h),bj _ _ λy _=>a7.enc_fr y⟩,⟨.inl λh=>(by cases h),bj _ _ λy _=>bn.enc_fr y⟩,⟨.inl λh=>(by cases h),bj _ _ λy _=>a8.enc_fr y⟩,⟨.inl λh=>(by cases h),bj _ _ λy _=>rJ y⟩,⟨.inl λh=>(by cases h),bj _ _ λy _=>bG y⟩,trivial,⟨.inl λh=>(by cases h),bj _ _ λy _=>aN.enc_fr y⟩,trivial,trivial,trivial,trivial,trivial,trivial,trivial,⟨.inl λh=>(by cases h),bj _ _ λy _=>pX y⟩,trivial,trivial,trivial,⟨.inl λh=>(by cases h),bj _ _ λy _=>aX.enc_fr y⟩,trivial⟩
def aQ.sml(x:aQ):Prop:=ab.sml x.Y/\ay.sml x.b3
structure eK where
 a1:Int
 c7:Int
 W:Int
 d1:Int
 d2:Int
 c6:Int
 c3:Int
 c8:Int
deriving DecidableEq,Inhabited
def eK.enc(o:dN)(x:eK):List C:=[I x.a1,I x.c7,I x.W,I x.d1,I x.d2,I x.c6,I x.c3,I x.c8]
def eK.enc_fr(x:eK):iD (eK.enc .own x):=⟨trivial,trivial,trivial,trivial,trivial,trivial,trivial,trivial,trivial⟩
def Lm{f:α->β}{l:List α}{K:Nat->Prop}(h:K l.length):Ln (l.map f).length K:=Ln.mk (I1 ..) h
variable{z:Int}
def Wm{K:Int->Prop}(h : -9223372036854775808<=z/\z<=9223372036854775807)(a:K z):Wr .i64 z K:=CO (eZ h.1 h.2) a
variable{p:Prop}
def dT[Decidable p](h:p)(a:p->X):Bf (decide p) X Y:=.D a λe=>absurd h e
def dF[Decidable p](h:¬p)(a:¬p->Y):Bf (decide p) X Y:=.D (λe=>absurd e h) a
variable{a b:Int}
def nT(h:a≠b)(c:a≠b->X):Bf (a != b) X Y:=.N c λe=>absurd e h
def nF(h:a=b)(c:a=b->Y):Bf (a != b) X Y:=.N (λe=>absurd h e) c
def eT(h:a=b)(c:a=b->X):Bf (a == b) X Y:=.E c λe=>absurd h e
def eF(h:a≠b)(c:a≠b->Y):Bf (a == b) X Y:=.E (λe=>absurd e h) c
def Bn{b:Bool}(h:Bf b Y X):Bf (!b) X Y:=.not h
def Bt(h:X):Bf true X Y:=.t rfl h
def Bu(h:Y):Bf false X Y:=.f rfl h
def Fm{b:Kd}{a:List C}(h1:k=b)(h:cs=a):kC k b cs a:=.mk h1 h
def dV[Decidable p](h:p)(a:X):Bf (decide p) X Y:=.D (λ_=>a) λe=>absurd h e
def dW[Decidable p](h:¬p)(a:Y):Bf (decide p) X Y:=.D (λe=>absurd e h) λ_=>a
def nV(h:a≠b)(c:X):Bf (a != b) X Y:=.N (λ_=>c) λe=>absurd e h
def nW(h:a=b)(c:Y):Bf (a != b) X Y:=.N (λe=>absurd h e) λ_=>c
def eV(h:a=b)(c:X):Bf (a == b) X Y:=.E (λ_=>c) λe=>absurd h e
def eW(h:a≠b)(c:Y):Bf (a == b) X Y:=.E (λe=>absurd e h) λ_=>c
structure Mf(Y:Prop):Prop where
 out:Y
def gO(y:Y)(h:Mf Y->X:=by intro y;(conv=>whnf);(first|with_reducible (first|refine Lm ?_|refine Wm ω ?_|refine Bn ?_|refine Fm rfl ?_)|refine Bt ?_|refine Bu ?_|fail);exact y.out):X:=h ⟨y⟩
def gP(y:Y)(h:Mf Y->X:=by intro y;(conv=>whnf);(first|with_reducible (first|refine Lm ?_|refine Wm ω ?_|refine Bn ?_|refine Fm rfl ?_)|refine Bt ?_|refine Bu ?_|refine C9 (by assumption) ?_|refine CF (aa (by assumption)) ?_|refine CJ rfl (aa (by assumption)) rfl ?_|refine CE ?_|fail);exact y.out):X:=h ⟨y⟩
def gD(y:Y)(h:Mf Y->X:=by intro y;(conv=>whnf);(first|with_reducible (first|refine Lm ?_|refine Wm ω ?_|refine dV ω ?_|refine dW ω ?_|refine Bn ?_|refine Fm rfl ?_)|refine Bt ?_|refine Bu ?_|fail);exact y.out):X:=h ⟨y⟩
def gE(y:Y)(h:Mf Y->X:=by intro y;(conv=>whnf);(first|with_reducible (first|refine Lm ?_|refine Wm ω ?_|refine dV ω ?_|refine dW ω ?_|refine Bn ?_|refine Fm rfl ?_)|refine Bt ?_|refine Bu ?_|refine C9 (by assumption) ?_|refine CF (aa (by assumption)) ?_|refine CJ rfl (aa (by assumption)) rfl ?_|refine CE ?_|fail);exact y.out):X:=h ⟨y⟩
def gA(y:Y)(h:Mf Y->X:=by intro y;(conv=>whnf);(first|with_reducible (first|refine Lm ?_|refine Wm ω ?_|refine dV ω ?_|refine dW ω ?_|refine nV ω ?_|refine nW ω ?_|refine eV ω ?_|refine eW ω ?_|refine Bn ?_|refine Fm rfl ?_)|refine Bt ?_|refine Bu ?_|fail);exact y.out):X:=h ⟨y⟩
def gB(y:Y)(h:Mf Y->X:=by intro y;(conv=>whnf);(first|with_reducible (first|refine Lm ?_|refine Wm ω ?_|refine dV ω ?_|refine dW ω ?_|refine nV ω ?_|refine nW ω ?_|refine eV ω ?_|refine eW ω ?_|refine Bn ?_|refine Fm rfl ?_)|refine Bt ?_|refine Bu ?_|refine C9 (by assumption) ?_|refine CF (aa (by assumption)) ?_|refine CJ rfl (aa (by assumption)) rfl ?_|refine CE ?_|fail);exact y.out):X:=h ⟨y⟩
def U4{z1 z2:Int}(h:z1=z2):RO (I z1) (I z2):=by subst h;rfl
def UI(c:C):RO c c:=(ng [c]).1
def wA(h:X:=by repeat'(first|exact trivial|rfl|refine CN ?_ ?_)):X:=h
def wB(h:X:=by repeat'(first|exact trivial|rfl|refine CN ?_ ?_|(exact U4 (by first|omega|(simp only;omega)|(simp;omega))))):X:=h
def wC(h:X:=by repeat'(first|exact trivial|rfl|exact UI _|refine CN ?_ ?_|(exact U4 (by first|omega|(simp only;omega)|(simp;omega))))):X:=h
def fO(n : Nat){a : Func}(tb : List (Nat × Nat × List Nat))(d : Tryz.prog.funcs[f]? = some a)(e : a.body = some c)(g : aw Tryz.prog TE ⟨n, [], []⟩ (DF Tryz.prog TE ⟨n, [], []⟩ tb) c (QW TE a.results.toList k rcs) (lay (wd 0 A)))(b : sh = true \/ iD rcs := by exact .inr ⟨trivial, trivial⟩)(h : (a.name == "runtime.NumGoroutine") = false := by kernel_rfl)(i : gv (nX tb) c = true := by kernel_rfl)(j : A.length + (a.ntmps - A.length) = n := by rfl) : zzA f sh A k rcs := Uz d h e i j b g
def fP(n : Nat){a : Func}(mo : List (Nat × List Nat))(tb : List (Nat × Nat × List Nat))(d : Tryz.prog.funcs[f]? = some a)(e : a.body = some c)(g : aw Tryz.prog TE ⟨n, [], mo⟩ (DF Tryz.prog TE ⟨n, [], mo⟩ tb) c (QW TE a.results.toList k rcs) (lay (wd 0 A)))(b : sh = true \/ iD rcs := by exact .inr ⟨trivial, trivial⟩)(h : (a.name == "runtime.NumGoroutine") = false := by kernel_rfl)(i : gv (nX tb) c = true := by kernel_rfl)(j : A.length + (a.ntmps - A.length) = n := by rfl) : zzA f sh A k rcs := Uz d h e i j b g
def fM(n : Nat){a : Func}{A B : List MA}(mo : List (Nat × List Nat))(tb : List (Nat × Nat × List Nat))(b : List (Nat × Nat))(g : Tryz.prog.funcs[f]? = some a)(h : a.body = some c)(i : ∀(u : Nat -> Nat -> Value)(p : Nat -> Value), aw Tryz.prog TE ⟨n, KJ p 0 A, mo⟩ (DF Tryz.prog TE ⟨n, KJ p 0 A, mo⟩ tb) c (Tv TE a.results.toList k rcs u A B b) (lay (wW u 0 A)))(d : sh = true \/ iD rcs := by exact .inr ⟨trivial, trivial⟩)(j : (a.name == "runtime.NumGoroutine") = false := by kernel_rfl)(l : gv (nX tb) c = true := by kernel_rfl)(o : A.length + (a.ntmps - A.length) = n := by rfl)(e : HC (FJ 0 A b) = true := by rfl) : zzB f sh A B k rcs := Ur b g j h l o e d i
section
variable{α:Type}{l:List α}{p:α->Bool}{i:Nat}{x:α}
def cZ(h:l[i]? = some x)(a:(l.take i).all p=true)(b:p x=true):(l.take (i+1)).all p=true:=by
 rw[O6,h,List.all_append,a];simp[b]
def fe(h:l[i]? = some x)(a:p x=false):l.all p=false:=by
 rw[List.all_eq_false];exact⟨x,I2 h,by simp[a]⟩
def gV(a:l.length<=i)(b:(l.take i).all p=true):l.all p=true:=by
 rwa [C8 a]at b
end
def wP{a:List α}{b:List β}{x:α}{y:β}(h1:a[i]? = some x)(c:b[i]? = some y):(a.zip b)[i]? = some (x,y):=by
 rw[List.getElem?_zip_eq_some];exact⟨h1,c⟩
def nth[Inhabited α](xs:List α)(i:Nat):α:=xs.getD i default
def ao[Inhabited α]{xs:List α}(h:i<xs.length):xs[i]? = some (nth xs i):=by
 unfold nth;rw[C3,W2 h];rfl
def bm[Inhabited α]{xs:List α}{y:α}(h:xs[i]? = some y):nth xs i=y:=by
 unfold nth;rw[C3,h];rfl
def am[Inhabited α]{xs:List α}(h:i<xs.length):nth xs i∈xs:=I2 (ao h)
def cE(n:Nat)(p:Nat->Bool):Bool:=(List.range n).all p
def ch{p:Nat->Bool} : cE n p=true↔∀j,j<n->p j=true:=by
 unfold cE;simp
def br{p:Nat->Bool}(h:cE n p=true)(a:p n=true):cE (n+1) p=true:=by
 rw[ch]at *;grind
def bX{p:Nat->Bool}(a:i<n)(b:p i=false):cE n p=false:=by
 by_cases h:cE n p=true
 ·rw[ch]at h;grind
 simpa using h
def dI{p:Nat->Bool}(h:cE n p=true)(a:i<n):p i=true:=ch.1 h i a
def iW(u:Bool)(v:Int):Bool:=decide (0<=v/\v<=999)&&(u || decide (v=0))
def iq(r:List Int)(u:Bool):Bool:=decide (r.length=16)&&r.all (iW u)
def dc(f:aU):Bool:=decide (1<=f.T.length/\f.T.length<=32)&&(decide (f.a6.length=f.T.length)&&(f.T.zip f.a6).all λq=>iq q.1 q.2)
def iT{f:aU}{r:List Int}{u:Bool}(h1:f.T[i]? = some r)(a:f.a6[i]? = some u)(b:iq r u=false):dc f=false:=by
 unfold dc;rw[fe (p:=λq=>iq q.1 q.2) (wP h1 a) b];simp
def sg{r:List Int}{u:Bool}{k:Nat}{v:Int}(h1:r[k]? = some v)(a:iW u v=false):iq r u=false:=by
 unfold iq;rw[fe h1 a];simp
def DP{f:aU}(h:dc f=true):1<=f.T.length/\f.T.length<=32/\f.a6.length=f.T.length:=by
 unfold dc at h;simp only[I0,C0]at h;exact⟨h.1.1,h.1.2,h.2.1⟩
def kQ(a:Int)(e:bk):Bool:=decide (0<=e.e/\e.e<=2/\(e.e=0->e.j=0)/\(e.e≠0->0<=e.j/\e.j<a))
def gx(t:aH)(a:Int):Bool:=cE t.J.length (λi=>kQ a (nth t.J i))&&decide (1<=t.J.length/\t.J.length<=32)
def M9(t:aH)(f:Int)(i:Nat):Bool:=decide ((nth t.J i).e≠0/\(nth t.J i).j=f)
def kv(t:aH)(f:Int)(n:Nat):List Int:=((List.range n).filter (M9 t f)).map λ(i:Nat)=>(i:Int)
def pagesOn(t:aH)(f:Int):List Int:=kv t f t.J.length
def B0{t:aH}{f:Int}(h:M9 t f n=true):kv t f (n+1)=kv t f n++[(n:Int)]:=by
 unfold kv;rw[List.range_succ,List.filter_append,W6];simp[h]
def FA{t:aH}{f:Int}(h:M9 t f n=false):kv t f (n+1)=kv t f n:=by
 unfold kv;rw[List.range_succ,List.filter_append,W6];simp[h]
def tM(t:aH)(f:Int)(n:Nat):(kv t f n).length<=n:=by
 unfold kv;rw[I1];exact O5 (List.length_filter_le ..) (by simp)
def ac(t:aH)(p:Int):bk:=if 0<=p/\p<t.J.length then nth t.J p.toNat else⟨0,0⟩
def pJ(m:aR)(i:Nat):Bool:=nth m.W.a6 i == decide (0<(pagesOn m.R (i:Int)).length)
def dC(m:aR):Bool:=(dc m.W&&gx m.R m.W.a6.length)&&cE m.W.a6.length (pJ m)
def aA(k:ah):Bool:=(cE k.a0.length (λi=>decide (0<=nth k.a0 i))&&dC k.F)&&decide (0<=k.Calls/\k.Calls<=100000/\k.a0.length<=40)
def rangeIn(pages:Int)(r:aB):Bool:=decide (1<=r.b0/\r.b0<=pages/\0<=r.At/\r.At<=pages - r.b0)
def gy(pages:Int)(xs:List aB)(i:Nat):Bool:=rangeIn pages (nth xs i)&&decide (i=0\/(nth xs (i - 1)).At+(nth xs (i - 1)).b0<(nth xs i).At)
def bC(pages:Int)(xs:List aB):Bool:=cE xs.length (gy pages xs)&&decide (1<=pages/\pages<=32)
def rn(page:Int)(r:aB):Bool:=decide (r.At<=page)&&decide (page<IntKind.i64.wrap (r.At+r.b0))
def lim(k:Int):Int:=if k=0 then 65535 else if k=1 then 255 else if k=2 then 15 else if k=3 then 3 else 0
def slots(k:Int):Int:=if k=0 then 16 else if k=1 then 8 else if k=2 then 4 else if k=3 then 2 else 0
def bi(s:ax):Bool:=decide (0<=s.Q/\s.Q<=31/\0<=s.a/\s.a<=3/\0<=s.b1/\s.b1<=lim s.a)
def fH(n:Int):Int:=if 9<=n/\n<=1000 then(n+15) / 16 else 0
def bF(l:a7):Bool:=decide (9<=l.o/\l.o<=1000/\l.a1=(l.o+15) / 16/\0<=l.Q/\l.Q<=32 - l.a1)
def lpgs(l:a7)(n:Nat):List Int:=(List.range n).map λ(i:Nat)=>l.Q+i
def pgs(sp:List ax)(la:List a7):List Int:=sp.map (·.Q)++la.flatMap λl=>lpgs l l.a1.toNat
def bp(sp:List ax)(la:List a7):Bool:=(sp.all bi&&la.all bF)&&decide (pgs sp la).Nodup
def cK(s:ax)(a:Int):Bool:=bi s&&decide (16*s.Q<=a/\a<=16*s.Q+15)
def aS(b i:Int):Bool:=decide (0<=b/\0<=i/\i<=15/\b / 2 ^ i.toNat % 2=1)
def bf(l:a7)(a:Int):Bool:=bF l&&decide (16*l.Q<=a/\a<=16*l.Q+l.o - 1)
def csz(k:Int):Int:=if 0<=k/\k<=3 then 2 ^ k.toNat else 0
def jb(s:ax)(a:Int):Int × Int:=if cK s a then((a - 16*s.Q) / csz s.a,(a - 16*s.Q) % csz s.a) else(-1,-1)
def oW(i:Nat)(s:ax)(a:Int):jK:=⟨if aS s.b1 ((a - 16*s.Q) / csz s.a) then 1 else 2,i,(a - 16*s.Q) / csz s.a,(a - 16*s.Q) % csz s.a⟩
def denotes(sp:List ax)(la:List a7)(a:Int):jK:=
 match sp.findIdx? (cK · a) with
 | some i=>oW i (nth sp i) a
 | none=>match la.findIdx? (bf · a) with
  | some i=>⟨3,i,0,a - 16*(nth la i).Q⟩
  | none=>⟨0,0,0,0⟩
def wF{pr:α->Bool}{xs:List α}{y:α}(a:xs[i]? = some y)(b:pr y=true)(c:∀(j:Nat)(z:α),j<i->xs[j]? = some z->pr z=false):xs.findIdx? pr=some i:=by
 obtain⟨d,rfl⟩:=X2.1 a;exact Z7.2 ⟨d,b,λj e=>by
   have:=c j _ e (W2 ω);simp[this]⟩
def yp{pr:α->Bool}{xs:List α}(d:xs.length<=i)(b:∀(j:Nat)(z:α),j<i->xs[j]? = some z->pr z=false):xs.findIdx? pr=none:=
 List.findIdx?_eq_none_iff.2 λz c=>by
  obtain⟨j,a⟩:=List.mem_iff_getElem?.1 c;exact b j z (by have:=(X2.1 a).1;omega) a
def dt{pr:α->Bool}{xs:List α}{y:α}(c:xs[i]? = some y)(d:pr y=false)(e:∀(j:Nat)(z:α),j<i->xs[j]? = some z->pr z=false):∀(j:Nat)(z:α),j<i+1->xs[j]? = some z->pr z=false:=by
 intro j z f a;rcases Nat.lt_or_ge j i with b|b
 ·exact e j z b a
 obtain rfl:j=i:=ω
 rw[c]at a;cases a;exact d
def cu(pr:α->Bool)(xs:List α):Int:=match xs.findIdx? pr with|some i=>(i:Nat)|none=>-1
def dB{pr:α->Bool}{xs:List α}{y:α}(a:xs[i]? = some y)(b:pr y=true)(c:∀(j:Nat)(z:α),j<i->xs[j]? = some z->pr z=false):cu pr xs=(i:Nat):=by
 unfold cu;rw[wF a b c]
def fy{pr:α->Bool}{xs:List α}(a:xs.length<=i)(b:∀(j:Nat)(z:α),j<i->xs[j]? = some z->pr z=false):cu pr xs = -1:=by
 unfold cu;rw[yp a b]
def gT(pr:α->Bool)(xs:List α):decide (cu pr xs≥0)=xs.any pr:=by
 unfold cu;cases h:xs.findIdx? pr with
 | none=>
  have:=List.findIdx?_eq_none_iff.1 h;have a:xs.any pr=false:=by rw[List.any_eq_false];intro y b;simp[this y b]
  rw[a];rfl
 | some i=>
  obtain⟨c,d,-⟩:=Z7.1 h;have a:xs.any pr=true:=O4.2 ⟨_,List.getElem_mem c,d⟩;rw[a];simp
def meshable(s t:ax):Bool:=(bi s&&bi t)&&decide (s.a=t.a/\s.Q≠t.Q/\s.b1.toNat &&& t.b1.toNat=0)
def nE(n:Int)(p:dw):Bool:=decide (0<=p.To/\p.To<=n - 1/\0<=p.Addr)
def Rt(z:Int):Bool:=decide (0<=z)
def gY(m:aL)(i:Nat):Bool:=(nth m.V i).all (nE m.V.length)&&(nth m.y i).all Rt
def bx(m:aL):Nat->Int
 | 0=>0
 | i+1=>bx m i+((nth m.V i).length+(nth m.y i).length)
def bP(m:aL):Bool:=(decide (1<=m.V.length/\m.V.length<=4/\m.y.length=m.V.length)&&cE m.V.length (gY m))&&decide (bx m m.V.length<=30)
def aF(m:aL):List Int:=if bP m then(m.V.flatMap λl=>l.map (·.Addr))++m.y.flatten else []
def dJ(a:Int)(y:aN):Bool:=decide (y.Addr=a)
def jS(xs:List aN)(i:Nat):Bool:=decide (0<=(nth xs i).a/\(nth xs i).a<=3/\0<=(nth xs i).Addr/\0<=(nth xs i).b7/\(i=0\/(nth xs (i - 1)).b7<=(nth xs i).b7))&&!(xs.take i).any (dJ (nth xs i).Addr)
def quarCells(xs:List aN):Nat->Int
 | 0=>0
 | i+1=>quarCells xs i+csz (nth xs i).a
def fI(q:bM):Bool:=cE q.a5.length (jS q.a5)&&decide (0<=q.c1/\q.c1<=500/\quarCells q.a5 q.a5.length<=q.c1)
def mV(xs:List Int)(i:Nat):Bool:=decide (0<=nth xs i/\nth xs i<=15/\(i=0\/nth xs (i - 1)<nth xs i))
def eU(p:cJ):Bool:=cE p.T.length (mV p.T)&&decide (0<=p.a3/\p.a3<=31/\0<=p.a2/\p.a2<=31/\p.a3≠p.a2)
def kx(j:cA):Bool:=eU j.X&&decide (0<=j.b2/\j.b2<=5/\0<=j.d/\j.d<=j.X.T.length)
def ta(j:cA):Bool:=decide (j.X.a3=0/\j.X.a2=0/\j.X.T.length=0/\j.b2=0/\j.d=0)
def aP(h:ab)(p:Int):List Int:=if(ac h.G.F.R p).e=0 then [] else pagesOn h.G.F.R (ac h.G.F.R p).j
def jI(p:Int)(s:ax):Bool:=decide (s.Q=p)
def eX(h:ab)(p:Int):Int:=cu (jI p) h.K
def aJ(n:Int):Int:=if n<1 then -1 else if n<=1 then 0 else if n<=2 then 1 else if n<=4 then 2 else if n<=8 then 3 else -1
set_option maxRecDepth 20000
set_option maxHeartbeats 2000000
def aI(n lo a:Int):zzA 144 false [.val none [I n],.val none [I lo],.val none [I a]] .one [B (decide (lo<=n/\n<=a))]:=by
 refine fO 15 [] Tryz.func144 rfl ?_
 repeat'(first|refine gP ?_|(conv=>whnf);first|with_reducible refine Bf.D (λb=>?_) (λb=>?_))
 all_goals exact Z0 (λz=>[B z]) (by simp;try omega)
def aO(n lo a:Int):zzA 60 false [.val none [I n],.val none [I lo],.val none [I a]] .one [B (decide (lo<=n/\n<=a))]:=by
 refine fO 15 [] Tryz.func60 rfl ?_
 repeat'(first|refine gP ?_|(conv=>whnf);first|with_reducible refine Bf.D (λb=>?_) (λb=>?_))
 all_goals exact Z0 (λz=>[B z]) (by simp;try omega)
def gg(k:Int):zzA 246 false [.val none [I k]] .one [B (decide (0<=k/\k<=3))]:=by
 refine fO 5 [] Tryz.func246 rfl ?_
 repeat'(first|refine gP ?_|(conv=>whnf);first|refine C9 (aO k 0 3) ?_)
 rfl
def cW(k:Int):zzA 94 false [.val none [I k]] .one [I (csz k)]:=by
 by_cases b:0<=k/\k<=3
 ·obtain rfl|rfl|rfl|rfl:k=0\/k=1\/k=2\/k=3:=ω
  all_goals
   refine fO 8 [] Tryz.func94 rfl ?_
   repeat'(first|refine gE ?_|(conv=>whnf);first|with_reducible refine Bf.D (λa=>?_) (λa=>?_)|refine C9 (gg _) ?_|refine CQ (by decide) ?_|refine CO rfl ?_)
   exact Z0 (λz=>[I z]) (by decide)
 refine fO 8 [] Tryz.func94 rfl ?_
 repeat'(first|refine gE ?_|(conv=>whnf);first|with_reducible refine Bf.D (λa=>?_) (λa=>?_)|refine C9 (gg _) ?_)
 exact Z0 (λz=>[I z]) (by unfold csz;rw[CB b])
def dx(k:Int):zzA 375 false [.val none [I k]] .one [I (csz k)]:=by
 by_cases b:0<=k/\k<=3
 ·obtain rfl|rfl|rfl|rfl:k=0\/k=1\/k=2\/k=3:=ω
  all_goals
   refine fO 9 [] Tryz.func375 rfl ?_
   repeat'(first|refine gE ?_|(conv=>whnf);first|with_reducible refine Bf.D (λa=>?_) (λa=>?_)|refine C9 (aI _ 0 3) ?_|refine CQ (by decide) ?_|refine CO rfl ?_)
   exact Z0 (λz=>[I z]) (by decide)
 refine fO 9 [] Tryz.func375 rfl ?_
 repeat'(first|refine gE ?_|(conv=>whnf);first|with_reducible refine Bf.D (λa=>?_) (λa=>?_)|refine C9 (aI _ 0 3) ?_)
 exact Z0 (λz=>[I z]) (by unfold csz;rw[CB b])
def nq(xs:List Int)(a:Int)(j:xs.length<=9223372036854775807):zzA 367 false [.val none (aD .U xs),.val none [I a]] .one [B (decide (a∈xs))]:=by
 refine fO 18 [] Tryz.func367 rfl ?_
 repeat'(first|refine gP ?_|fail)
 (conv=>whnf)
 refine CH (ι:=Nat) (λi=>[(0,.H .one (aD .U xs)),(1,.H .one [I a]),(5,.H .one [I (i:Nat)])]) (λi=>i<=xs.length/\a∉xs.take i) (λi=>xs.length - i) 0 ?_ ⟨X0 _,by simp⟩ λi g=>?_
 ·exact wB
 obtain⟨g,b⟩:=g;by_cases c:i<xs.length
 ·obtain⟨y,d⟩ : ∃y,xs[i]? = some y:=⟨_,W2 c⟩
  repeat'(first|refine gE ?_|(conv=>whnf);first|with_reducible (first|refine CF (aa d) ?_|refine Bf.E (λh=>?_) (λh=>?_)))
  ·exact Z0 (λz=>[B z]) (by symm;simp;rw[<-‹y=a›];exact I2 d)
  (conv=>whnf)
  refine CG (i+1) ⟨ω,?_⟩ ω ?_
  ·rw[O6,d]
   simp only[Option.toList_some,V3,V1,not_or];exact⟨b,λe=>‹y≠a› e.symm⟩
  exact wB
 repeat'(first|refine gE ?_|fail)
 rw[C8 ω]at b;exact Z0 (λz=>[B z]) (by symm;simpa using b)
set_option maxHeartbeats 4000000
def good(k:Int)(s:List Int)(a:Int):Prop:=0<=a/\a<=511/\a.tmod (csz k)=0/\a∉s
instance (k:Int) (s:List Int) (a:Int):Decidable (good k s a):=by unfold good;exact inferInstance
def rY(k:Int):List Int->List Int->Option (List Int)
 | s,[]=>some s
 | s,a::l=>if good k s a then rY k (s++[a]) l else none
def fh(k:Nat)(s l:List Int):Option (List Int):=if l.length<=8/\k<=3 then rY k s l else none
def gF:Nat->List Int->List (List Int)->Option (List Int)
 | _,s,[]=>some s
 | k,s,l::ls=>(fh k s l).bind λa=>gF (k+1) a ls
def bt(c:a8):Bool:=decide (c.b.length=4)&&(gF 0 [] c.b).isSome
def ro(k:Int):∀(a s b:List Int),rY k s (a++b)=(rY k s a).bind λc=>rY k c b
 | [],s,b=>rfl
 | x::a,s,b=>by
  simp only[List.cons_append,rY];split
  ·exact ro k a _ b
  rfl
def pS:∀(a:List (List Int))(k:Nat)(s:List Int)(b:List (List Int)),gF k s (a++b)=(gF k s a).bind λc=>gF (k+a.length) c b
 | [],k,s,b=>rfl
 | l::a,k,s,b=>by
  simp only[List.cons_append,gF,Option.bind_assoc,List.length_cons]
  congr 1;funext c
  rw[pS a (k+1) c b,show k+1+a.length=k+(a.length+1) by omega]
variable{l:List Int}
def JE{k:Int}{b s:List Int}(c:l[j]? = some a)(h:rY k b (l.take j)=some s)(d:good k s a):rY k b (l.take (j+1))=some (s++[a]):=by
 rw[O6,c,Option.toList_some,ro,h];simp[rY,d]
def Qn{k:Nat}{c s:List Int}(d:l[j]? = some a)(h:rY k c (l.take j)=some s)(e:¬good k s a):fh k c l=none:=by
 unfold fh;split
 ·have:l=l.take j++(a::l.drop (j+1)):=by
   obtain⟨b,rfl⟩:=X2.1 d;rw[<-List.drop_eq_getElem_cons b,List.take_append_drop]
  rw[this,ro,h];simp[rY,e]
 rfl
def BG{k:Int} : ∀{l s b:List Int},rY k s l=some b->b.length=s.length+l.length
 | [],s,b,h=>by simp only[rY,C1]at h;subst h;simp
 | a::l,s,b,h=>by
  simp only[rY]at h;split at h
  ·have:=BG h;simp at this |-;omega
  cases h
def uA{a:List (List Int)}{s:List Int}(b:a[i]? = some l)(h:gF 0 [] (a.take i)=some s):gF 0 [] (a.take (i+1))=fh i s l:=by
 have c:=(X2.1 b).1;rw[O6,b,Option.toList_some,pS,h];simp only[Option.bind_some,gF,Y7,Z1,Nat.min_eq_left (Nat.le_of_lt c)];cases fh i s l<;>rfl
def lK{c:a8}{s:List Int}(b:c.b[i]? = some l)(h:gF 0 [] (c.b.take i)=some s)(d:fh i s l=none):bt c=false:=by
 have a:=uA b h;rw[d]at a;have e:gF 0 [] c.b=none:=by
  rw[<-List.take_append_drop (i+1) c.b,pS,a];rfl
 unfold bt;rw[e];simp
def Gk:∀{b:List (List Int)}{k:Nat}{s a:List Int},gF k s b=some a->a.length<=s.length+8*b.length
 | [],k,s,a,h=>by simp only[gF,C1]at h;subst h;simp
 | l::b,k,s,a,h=>by
  simp only[gF]at h;unfold fh at h;split at h
  ·cases c:rY k s l with
   | none=>rw[c]at h;cases h
   | some d=>
    rw[c]at h;have e:=BG c;have f:=Gk (show gF (k+1) d b=some a from h);simp only[List.length_cons];omega
  cases h
def Ny(h:i<=3):csz (i:Int)≠0:=by
 obtain rfl|rfl|rfl|rfl:i=0\/i=1\/i=2\/i=3:=ω
 all_goals decide
def cw : ∀r∈l.map (rI .own),r.length=1:=by
 intro r a;obtain⟨z,-,rfl⟩:=Z4.1 a;rfl
def o6(c:a8)(u:a8.sml c):zzA 229 false [.val (some 1) (a8.enc .U c)] .one [B (bt c)]:=by
 have H:=u.1;refine fO 60 [] Tryz.func229 rfl ?_
 repeat'(first|refine gP ?_|(conv=>whnf);first|with_reducible refine Bf.N (λe=>?_) (λe=>?_))
 ·exact Z0 (λz=>[B z]) (by symm;unfold bt;rw[W0 ω];rfl)
 have w:c.b.length=4:=ω
 (conv=>whnf)
 refine CH (ι:=Nat × List Int) (λi=>[(1,.H .box (a8.enc .U c)),(3,.H .one (aD .own i.2)),(4,.H .one [I (i.1:Nat)])]) (λi=>i.1<=4/\gF 0 [] (c.b.take i.1)=some i.2) (λi=>4 - i.1) (0,[]) ?_ ⟨X0 _,rfl⟩ λi k=>?_
 ·exact wB
 obtain⟨i,s⟩:=i;obtain⟨k,b⟩:=k;simp only at k b |-;have g:=Gk b;rw[Z1]at g;simp only[List.length_nil]at g;by_cases E:i<4
 ·obtain⟨l,d⟩ : ∃l,c.b[i]? = some l:=⟨_,W2 ω⟩
  have F:l.length<=1048576:=u.2 l (I2 d)
  repeat'(first|refine gE ?_|(conv=>whnf);first|with_reducible (first|refine CF (aa d) ?_|refine Bf.D (λe=>?_) (λe=>?_)))
  ·exact Z0 (λz=>[B z]) (lK d b (by unfold fh;rw[CB ω])).symm
  have n:l.length<=8:=ω
  (conv=>whnf)
  refine CH (ι:=Nat × List Int) (λj=>[(1,.H .box (a8.enc .U c)),(3,.H .one (aD .own j.2)),(4,.H .one [I (i:Nat)]),(5,.H .one [I (j.1:Nat)])]) (λj=>j.1<=l.length/\rY i s (l.take j.1)=some j.2) (λj=>l.length - j.1) (0,s) ?_ ⟨X0 _,rfl⟩ λj o=>?_
  ·exact wB
  obtain⟨j,p⟩:=j;obtain⟨o,a⟩:=o;simp only at o a |-;have h:=BG a;rw[Z1]at h;by_cases q:j<l.length
  ·obtain⟨y,t⟩ : ∃y,l[j]? = some y:=⟨_,W2 q⟩
   repeat'(first|refine gE ?_|(conv=>whnf);first|with_reducible (first|refine CF (aa d) ?_|refine CF (aa t) ?_|refine Bf.D (λe=>?_) (λe=>?_)|refine Bf.N (λe=>?_) (λe=>?_))|refine C9 (aI y 0 511) ?_|refine C9 (dx (i:Nat)) ?_|refine CQ (Ny ω) ?_|refine CX rfl ?_|refine CL (nq p y ω) ⟨⟨rfl,d8 _⟩,⟨rfl,rfl⟩,trivial⟩ ?_|refine CU cw (λr G=>by rw[V1.1 G];rfl) (by simp[aZ,dS]) (by simp;omega) (by simp only[I1];exact wZ (by simp;omega) (by decide)) rfl ?_)
   all_goals first
    | exact Z0 (λz=>[B z]) (lK d b (Qn t a λ⟨J,K,L,M⟩=>by first|contradiction|omega)).symm
    | ((conv=>whnf)
       refine CG (j+1,p++[y]) ⟨(by simp only;omega),JE t a ⟨ω,ω,(by assumption),(by assumption)⟩⟩ (by simp only;omega) ?_
       (repeat'(first|exact trivial|rfl|exact CN rfl (CN (Z0 (C.s dN.own) (by simp[rI])) trivial)|refine CN ?_ ?_)))
  repeat'(first|refine gE ?_|(conv=>whnf);first|with_reducible refine CF (aa d) ?_)
  (conv=>whnf)
  rw[C8 ω]at a;refine CG (i+1,p) ⟨(by simp only;omega),(by rw[uA d b];unfold fh;rw[CD ⟨n,ω⟩];exact a)⟩ (by simp only;omega) ?_;exact wB
 repeat'(first|refine gE ?_|fail)
 rw[C8 ω]at b;exact Z0 (λz=>[B z]) (by symm;unfold bt;rw[b,O0 w];rfl)
def fV(s:List Int):List (Int × Value):=s.map λa=>(a,.bool true)
def nH(a:Int):∀(s:List Int),mlook (fV s) a (.bool false)=.bool (decide (a∈s))
 | []=>by simp[fV,mlook]
 | x::s=>by
  have b:=nH a s;simp only[fV,Y6,mlook]at b |-;by_cases h:x=a
  ·rw[CD h];simp[h]
  rw[CB h,b]
  congr 1
  simp[show ¬a=x from λe=>h e.symm]
def uT{a:Int} : ∀{s:List Int},a∉s->fV (s++[a])=mput (fV s) a (.bool true)
 | [],_=>rfl
 | x::s,h=>by
  simp only[List.mem_cons,not_or]at h;have b:=uT h.2;simp only[fV,List.cons_append,Y6,mput]at b |-;rw[CB λe=>h.1 e.symm,b]
def oo(c:a8)(u:a8.sml c):zzA 77 false [.val (some 1) (a8.enc .U c)] .one [B (bt c)]:=by
 have C:=u.1;refine fO 54 [] Tryz.func77 rfl ?_
 repeat'(first|refine gP ?_|fail)
 (conv=>whnf)
 refine CH (ι:=Nat × List Int) (λi=>[(1,.H .box (a8.enc .U c)),(3,.H .one [.m (fV i.2)]),(10,.H .one (f9 .U c.b)),(11,.H .one [I c.b.length]),(12,.H .one [I (i.1:Nat)])]) (λi=>i.1<=c.b.length/\gF 0 [] (c.b.take i.1)=some i.2) (λi=>c.b.length - i.1) (0,[]) ?_ ⟨X0 _,rfl⟩ λi h=>?_
 ·exact wB
 obtain⟨i,s⟩:=i;obtain⟨h,b⟩:=h;simp only at h b |-;by_cases k:i<c.b.length
 ·obtain⟨l,d⟩ : ∃l,c.b[i]? = some l:=⟨_,W2 k⟩
  have w:l.length<=1048576:=u.2 l (I2 d)
  repeat'(first|refine gE ?_|(conv=>whnf);first|with_reducible (first|refine CF (aa d) ?_|refine Bf.D (λe=>?_) (λe=>?_))|refine C9 (gg (i:Nat)) ?_)
  ·exact Z0 (λz=>[B z]) (lK d b (by unfold fh;rw[CB ω])).symm
  rotate_left
  ·exact Z0 (λz=>[B z]) (lK d b (by unfold fh;rw[CB ω])).symm
  have n:l.length<=8:=ω
  have o:i<=3:=ω
  (conv=>whnf)
  refine CH (ι:=Nat × List Int) (λj=>[(1,.H .box (a8.enc .U c)),(3,.H .one [.m (fV j.2)]),(4,.H .one [I (i:Nat)]),(10,.H .one (f9 .U c.b)),(11,.H .one [I c.b.length]),(12,.H .one [I (i:Nat)]),(25,.H .one (aD .U l)),(26,.H .one [I l.length]),(27,.H .one [I (j.1:Nat)])]) (λj=>j.1<=l.length/\rY i s (l.take j.1)=some j.2) (λj=>l.length - j.1) (0,s) ?_ ⟨X0 _,rfl⟩ λj p=>?_
  ·exact wB
  obtain⟨j,q⟩:=j;obtain⟨p,a⟩:=p;simp only at p a |-;by_cases r:j<l.length
  ·obtain⟨y,t⟩ : ∃y,l[j]? = some y:=⟨_,W2 r⟩
   repeat'(first|refine gE ?_|(conv=>whnf);first|with_reducible (first|refine CF (aa d) ?_|refine CF (aa t) ?_|refine Bf.D (λe=>?_) (λe=>?_)|refine Bf.N (λe=>?_) (λe=>?_))|refine C9 (aO y 0 511) ?_|refine C9 (cW (i:Nat)) ?_|refine CQ (Ny ω) ?_|refine CX rfl ?_|refine Ml.mk (nH y q) ?_|refine Mu.mk (uT (by assumption)) ?_)
   all_goals first
    | exact Z0 (λz=>[B z]) (lK d b (Qn t a λ⟨E,F,G,H⟩=>by first|contradiction|omega)).symm
    | ((conv=>whnf)
       refine CG (j+1,q++[y]) ⟨(by simp only;omega),JE t a ⟨ω,ω,(by assumption),(by assumption)⟩⟩ (by simp only;omega) ?_
       (exact wA))
  repeat'(first|refine gE ?_|fail)
  (conv=>whnf)
  rw[C8 ω]at a;refine CG (i+1,q) ⟨(by simp only;omega),(by rw[uA d b];unfold fh;rw[CD ⟨n,o⟩];exact a)⟩ (by simp only;omega) ?_;exact wB
 repeat'(first|refine gE ?_|fail)
 rw[C8 ω]at b;have g:((c.b.length:Int) == 4)=decide (c.b.length=4):=by
  by_cases g:c.b.length=4
  ·simp[g]
  rw[W0 g];simp;omega
 exact Z0 (λz=>[B z]) (g.trans (by unfold bt;rw[b];simp))
def dy:Nat->List (List Int)->Int
 | _,[]=>0
 | k,l::ls=>l.length*csz k+dy (k+1) ls
def cB(c:a8):Int:=if bt c then dy 0 c.b else 0
def oP:∀(a:List (List Int))(k:Nat)(l:List Int),dy k (a++[l])=dy k a+l.length*csz (k+a.length:Nat)
 | [],k,l=>by simp[dy]
 | x::a,k,l=>by
  simp only[List.cons_append,dy,List.length_cons];rw[oP a (k+1) l,show k+1+a.length=k+(a.length+1) by omega];omega
def mM{a:List (List Int)}(b:a[i]? = some l):dy 0 (a.take (i+1))=dy 0 (a.take i)+l.length*csz i:=by
 have c:=(X2.1 b).1;rw[O6,b,Option.toList_some,oP];simp only[Y7,Z1,Nat.min_eq_left (Nat.le_of_lt c)]
def Kk:∀{b:List (List Int)}{k:Nat}{s c:List Int},gF k s b=some c->∀l∈b,l.length<=8
 | [],k,s,c,h,l,a=>by simp at a
 | x::b,k,s,c,h,l,a=>by
  simp only[gF]at h;unfold fh at h;split at h
  ·rename_i e
   rcases List.mem_cons.1 a with rfl|a
   ·exact e.1
   cases d:rY k s x with
   | none=>rw[d]at h;cases h
   | some f=>rw[d]at h;exact Kk (show gF (k+1) f b=some c from h) l a
  cases h
def mC{c:a8}(h:bt c=true):c.b.length=4/\∀l∈c.b,l.length<=8:=by
 unfold bt at h;simp only[I0,C0]at h;obtain⟨s,a⟩:=Option.isSome_iff_exists.1 h.2;exact⟨h.1,Kk a⟩
def NU(i:Nat):0<=csz (i:Int)/\csz (i:Int)<=8:=by
 by_cases h:i<=3
 ·obtain rfl|rfl|rfl|rfl:i=0\/i=1\/i=2\/i=3:=ω
  all_goals decide
 unfold csz;rw[CB ω];decide
def Kx{k:Int}(b:n<=8)(a:0<=k)(c:k<=8):0<=(n:Int)*k/\(n:Int)*k<=64:=by
 refine⟨Int.mul_nonneg ω a,?_⟩;have d:(n:Int)*k<=8*k:=Int.mul_le_mul_of_nonneg_right ω a;omega
def qV(f:aU)(n:aU.sml f):zzA 83 false [.val (some 2) (aU.enc .U f)] .one [B (dc f)]:=by
 have C:=n.1.1;have E:f.a6.length<=1048576:=n.2;refine fO 61 [] Tryz.func83 rfl ?_
 repeat'(first|refine gP ?_|(conv=>whnf);first|with_reducible (first|refine Bf.D (λa=>?_) (λa=>?_)|refine Bf.N (λa=>?_) (λa=>?_))|refine C9 (aI f.T.length 1 32) ?_)
 ·exact Z0 (λz=>[B z]) (by symm;unfold dc;rw[W0 (by omega:¬(f.a6.length=f.T.length))];simp)
 rotate_left
 ·exact Z0 (λz=>[B z]) (by symm;unfold dc;rw[W0 (by omega:¬(1<=f.T.length/\f.T.length<=32))];rfl)
 have h:1<=f.T.length/\f.T.length<=32:=ω
 have j:f.a6.length=f.T.length:=ω
 (conv=>whnf)
 refine CH (ι:=Nat) (λi=>[(1,.H .box (aU.enc .U f)),(3,.H .one [I (i:Nat)])]) (λi=>i<=f.T.length/\((f.T.zip f.a6).take i).all (λq=>iq q.1 q.2)=true) (λi=>f.T.length - i) 0 ?_ ⟨X0 _,rfl⟩ λi o=>?_
 ·exact wB
 obtain⟨o,t⟩:=o;by_cases l:i<f.T.length
 ·obtain⟨r,c⟩ : ∃r,f.T[i]? = some r:=⟨_,W2 l⟩
  obtain⟨u,b⟩ : ∃u,f.a6[i]? = some u:=⟨_,W2 ω⟩
  repeat'(first|refine gE ?_|(conv=>whnf);first|with_reducible (first|refine CF (aa c) ?_|refine Bf.N (λa=>?_) (λa=>?_)))
  ·exact Z0 (λz=>[B z]) (iT c b (by unfold iq;rw[W0 ω];rfl)).symm
  have g:r.length=16:=ω
  (conv=>whnf)
  refine CH (ι:=Nat) (λk=>[(1,.H .box (aU.enc .U f)),(3,.H .one [I (i:Nat)]),(4,.H .one [I (k:Nat)])]) (λk=>k<=16/\(r.take k).all (iW u)=true) (λk=>16 - k) 0 ?_ ⟨X0 _,rfl⟩ λk w=>?_
  ·exact wB
  obtain⟨w,d⟩:=w;by_cases y:k<16
  ·obtain⟨v,e⟩ : ∃v,r[k]? = some v:=⟨_,W2 ω⟩
   cases u with
   | true=>
    repeat'(first|refine gE ?_|(conv=>whnf);first|with_reducible (first|refine CF (aa c) ?_|refine CF (aa b) ?_|refine CF (aa e) ?_|refine Bf.D (λa=>?_) (λa=>?_)|refine Bf.N (λa=>?_) (λa=>?_))|refine C9 (aI v 0 999) ?_)
    all_goals first
     | exact Z0 (λz=>[B z]) (iT c b (sg e (by first|(unfold iW;rw[W0 ω];rfl)|(unfold iW;rw[W0 (p:=v=0) ω];simp)))).symm
     | ((conv=>whnf)
        refine CG (ι:=Nat) (k+1) ⟨ω,cZ e d (by unfold iW;first|(rw[O0 ω];rfl)|(rw[O0 (p:=0<=v/\v<=999) ω,O0 (p:=v=0) ω];rfl))⟩ ω ?_
        (exact wA))
   | false=>
    repeat'(first|refine gE ?_|(conv=>whnf);first|with_reducible (first|refine CF (aa c) ?_|refine CF (aa b) ?_|refine CF (aa e) ?_|refine Bf.D (λa=>?_) (λa=>?_)|refine Bf.N (λa=>?_) (λa=>?_))|refine C9 (aI v 0 999) ?_)
    all_goals first
     | exact Z0 (λz=>[B z]) (iT c b (sg e (by first|(unfold iW;rw[W0 ω];rfl)|(unfold iW;rw[W0 (p:=v=0) ω];simp)))).symm
     | ((conv=>whnf)
        refine CG (ι:=Nat) (k+1) ⟨ω,cZ e d (by unfold iW;first|(rw[O0 ω];rfl)|(rw[O0 (p:=0<=v/\v<=999) ω,O0 (p:=v=0) ω];rfl))⟩ ω ?_
        (exact wA))
  repeat'(first|refine gE ?_|fail)
  (conv=>whnf)
  refine CG (i+1) ⟨ω,cZ (wP c b) t (by unfold iq;rw[gV ω d];simp[g])⟩ ω ?_;exact wB
 repeat'(first|refine gE ?_|fail)
 exact Z0 (λz=>[B z]) (by symm;unfold dc;rw[gV (by rw[List.length_zip];omega) t];simp[h,j])
def qT(f:aU)(h:aU.sml f):zzA 254 false [.val (some 2) (aU.enc .U f)] .one [B (dc f)]:=by
 have C:=h.1.1;have E:f.a6.length<=1048576:=h.2;refine fO 55 [] Tryz.func254 rfl ?_
 repeat'(first|refine gP ?_|(conv=>whnf);first|with_reducible (first|refine Bf.D (λa=>?_) (λa=>?_)|refine Bf.N (λa=>?_) (λa=>?_))|refine C9 (aO f.T.length 1 32) ?_)
 ·exact Z0 (λz=>[B z]) (by symm;unfold dc;rw[W0 (by omega:¬(f.a6.length=f.T.length))];simp)
 rotate_left
 ·exact Z0 (λz=>[B z]) (by symm;unfold dc;rw[W0 (by omega:¬(1<=f.T.length/\f.T.length<=32))];rfl)
 have j:1<=f.T.length/\f.T.length<=32:=ω
 have l:f.a6.length=f.T.length:=ω
 (conv=>whnf)
 refine CH (ι:=Nat) (λi=>[(1,.H .box (aU.enc .U f)),(22,.H .one (f9 .U f.T)),(23,.H .one [I (f.T.length)]),(24,.H .one [I ((i:Nat):Int)])]) (λi=>i<=f.T.length/\((f.T.zip f.a6).take i).all (λq=>iq q.1 q.2)=true) (λi=>f.T.length - i) (0) ?_ (⟨X0 _,rfl⟩) λi o=>?_
 ·exact wB
 obtain⟨o,p⟩:=o;by_cases n:i<f.T.length
 ·obtain⟨r,c⟩ : ∃r,f.T[i]? = some r:=⟨_,W2 n⟩
  obtain⟨u,b⟩ : ∃u,f.a6[i]? = some u:=⟨_,W2 ω⟩
  have y:r.length<=1048576:=h.1.2 r (I2 c)
  repeat'(first|refine gE ?_|(conv=>whnf);first|with_reducible (first|refine CF (aa c) ?_|refine Bf.N (λa=>?_) (λa=>?_)))
  ·exact Z0 (λz=>[B z]) (iT c b (by unfold iq;rw[W0 ω];rfl)).symm
  have g:r.length=16:=ω
  (conv=>whnf)
  refine CH (ι:=Nat) (λk=>[(1,.H .box (aU.enc .U f)),(3,.H .one [I ((i:Nat):Int)]),(22,.H .one (f9 .U f.T)),(23,.H .one [I (f.T.length)]),(24,.H .one [I ((i:Nat):Int)]),(32,.H .one (aD .U r)),(33,.H .one [I (r.length)]),(34,.H .one [I ((k:Nat):Int)])]) (λk=>k<=r.length/\(r.take k).all (iW u)=true) (λk=>r.length - k) (0) ?_ (⟨X0 _,rfl⟩) λk t=>?_
  ·exact wB
  obtain⟨t,d⟩:=t;by_cases w:k<r.length
  ·obtain⟨v,e⟩ : ∃v,r[k]? = some v:=⟨_,W2 ω⟩
   cases u with
   | true=>
    repeat'(first|refine gE ?_|(conv=>whnf);first|with_reducible (first|refine CF (aa c) ?_|refine CF (aa b) ?_|refine CF (aa e) ?_|refine Bf.D (λa=>?_) (λa=>?_)|refine Bf.N (λa=>?_) (λa=>?_))|refine C9 (aO v 0 999) ?_)
    all_goals first
     | exact Z0 (λz=>[B z]) (iT c b (sg e (by unfold iW;grind))).symm
     | ((conv=>whnf)
        refine CG (ι:=Nat) (k+1) ⟨ω,cZ e d (by unfold iW;grind)⟩ ω ?_
        (exact wA))
   | false=>
    repeat'(first|refine gE ?_|(conv=>whnf);first|with_reducible (first|refine CF (aa c) ?_|refine CF (aa b) ?_|refine CF (aa e) ?_|refine Bf.D (λa=>?_) (λa=>?_)|refine Bf.N (λa=>?_) (λa=>?_))|refine C9 (aO v 0 999) ?_)
    all_goals first
     | exact Z0 (λz=>[B z]) (iT c b (sg e (by unfold iW;grind))).symm
     | ((conv=>whnf)
        refine CG (ι:=Nat) (k+1) ⟨ω,cZ e d (by unfold iW;grind)⟩ ω ?_
        (exact wA))
  repeat'(first|refine gE ?_|fail)
  (conv=>whnf)
  refine CG (i+1) ⟨ω,cZ (wP c b) p (by unfold iq;rw[gV ω d];simp[g])⟩ ω ?_;exact wB
 repeat'(first|refine gE ?_|fail)
 exact Z0 (λz=>[B z]) (by symm;unfold dc;rw[gV (by rw[List.length_zip];omega) p];simp[j,l])
def Dl(t:aH)(b:Int)(g:aH.sml t):zzA 472 false [.val (some 1) (aH.enc .U t),.val none [I b]] .one [B (gx t b)]:=by
 have k:=g.1;refine fO 54 [] Tryz.func472 rfl ?_
 repeat'(first|refine gP ?_|fail)
 (conv=>whnf)
 refine CH (ι:=Nat) (λi=>[(1,.H .one [I (b)]),(2,.H .box (aH.enc .U t)),(5,.H .one [I ((i:Nat):Int)])]) (λi=>i<=t.J.length/\cE i (λj=>kQ b (nth t.J j))=true) (λi=>t.J.length - i) 0 ?_ ⟨X0 _,rfl⟩ λi c=>?_
 ·exact wB
 obtain⟨c,d⟩:=c;by_cases e:i<t.J.length
 ·have h:=ao e
  repeat'(first|refine gE ?_|(conv=>whnf);first|with_reducible (first|refine CF (aa h) ?_|refine Bf.D (λa=>?_) (λa=>?_)|refine Bf.N (λa=>?_) (λa=>?_)|refine Bf.E (λa=>?_) (λa=>?_))|refine C9 (aI _ 0 2) ?_)
  all_goals first
   | exact Z0 (λz=>[B z]) ((by symm;unfold gx;rw[bX e (W0 (by grind))];rfl))
   | ((conv=>whnf);refine CG (i+1) ⟨ω,br d (O0 (by grind))⟩ ω ?_;(exact wB))
 repeat'(first|refine gE ?_|(conv=>whnf);first|refine C9 (aI _ 1 32) ?_)
 obtain rfl:i=t.J.length:=ω
 exact Z0 (λz=>[B z]) ((by unfold gx;rw[d,Bool.true_and];exact decide_eq_decide.2 ω))
def DZ(t:aH)(b:Int)(g:aH.sml t):zzA 255 false [.val (some 1) (aH.enc .U t),.val none [I b]] .one [B (gx t b)]:=by
 have k:=g.1;refine fO 49 [] Tryz.func255 rfl ?_
 repeat'(first|refine gP ?_|fail)
 (conv=>whnf)
 refine CH (ι:=Nat) (λi=>[(1,.H .one [I (b)]),(2,.H .box (aH.enc .U t)),(8,.H .one (lL .U t.J)),(9,.H .one [I (t.J.length)]),(10,.H .one [I ((i:Nat):Int)])]) (λi=>i<=t.J.length/\cE i (λj=>kQ b (nth t.J j))=true) (λi=>t.J.length - i) 0 ?_ ⟨X0 _,rfl⟩ λi c=>?_
 ·exact wB
 obtain⟨c,d⟩:=c;by_cases e:i<t.J.length
 ·have h:=ao e
  repeat'(first|refine gE ?_|(conv=>whnf);first|with_reducible (first|refine CF (aa h) ?_|refine Bf.D (λa=>?_) (λa=>?_)|refine Bf.N (λa=>?_) (λa=>?_)|refine Bf.E (λa=>?_) (λa=>?_))|refine C9 (aO _ 0 2) ?_)
  all_goals first
   | exact Z0 (λz=>[B z]) ((by symm;unfold gx;rw[bX e (W0 (by grind))];rfl))
   | ((conv=>whnf);refine CG (i+1) ⟨ω,br d (O0 (by grind))⟩ ω ?_;(exact wB))
 repeat'(first|refine gE ?_|(conv=>whnf);first|refine C9 (aO _ 1 32) ?_)
 obtain rfl:i=t.J.length:=ω
 exact Z0 (λz=>[B z]) ((by unfold gx;rw[d,Bool.true_and];exact decide_eq_decide.2 ω))
def gU(t:aH)(f:Int)(c:aH.sml t):zzA 473 false [.val (some 1) (aH.enc .U t),.val none [I f]] .one (aD .own (pagesOn t f)):=by
 have j:=c.1;refine fO 37 [] Tryz.func473 rfl ?_ (.inr (bG _))
 repeat'(first|refine gP ?_|fail)
 (conv=>whnf)
 refine CH (ι:=Nat) (λi=>[(1,.H .one [I (f)]),(2,.H .box (aH.enc .U t)),(5,.H .one (aD .own (kv t f i))),(6,.H .one [I ((i:Nat):Int)])]) (λi=>i<=t.J.length) (λi=>t.J.length - i) (0) ?_ (X0 _) λi k=>?_
 ·exact wB
 have d:=tM t f i;by_cases e:i<t.J.length
 ·have g:=ao e
  repeat'(first|refine gE ?_|(conv=>whnf);first|with_reducible (first|refine CF (aa g) ?_|refine Bf.D (λb=>?_) (λb=>?_)|refine Bf.N (λb=>?_) (λb=>?_)|refine Bf.E (λb=>?_) (λb=>?_))|refine CU cw (λr h=>by rw[V1.1 h];rfl) (by simp[aZ,dS]) (by simp;omega) (by simp only[I1];exact wZ (by simp;omega) (by decide)) rfl ?_)
  all_goals first
   |(have a:M9 t f i=true:=O0 (by grind)
     (conv=>whnf)
     refine CG (i+1) ω ω ?_;rw[B0 a]
     (repeat'(first|exact trivial|rfl|exact CN rfl (CN (Z0 (C.s dN.own) (by simp[rI])) trivial)|refine CN ?_ ?_)))
   |(have a:M9 t f i=false:=W0 (by grind)
     (conv=>whnf)
     refine CG (i+1) ω ω ?_;rw[FA a]
     (exact wA))
 repeat'(first|refine gE ?_|fail)
 obtain rfl:i=t.J.length:=ω
 rfl
def tj(t:aH)(f:Int)(c:aH.sml t):zzA 256 false [.val (some 1) (aH.enc .U t),.val none [I f]] .one (aD .own (pagesOn t f)):=by
 have j:=c.1;refine fO 32 [] Tryz.func256 rfl ?_ (.inr (bG _))
 repeat'(first|refine gP ?_|fail)
 (conv=>whnf)
 refine CH (ι:=Nat) (λi=>[(1,.H .one [I (f)]),(5,.H .one (aD .own (kv t f i))),(10,.H .one (lL .U t.J)),(11,.H .one [I (t.J.length)]),(12,.H .one [I ((i:Nat):Int)])]) (λi=>i<=t.J.length) (λi=>t.J.length - i) (0) ?_ (X0 _) λi k=>?_
 ·exact wB
 have d:=tM t f i;by_cases e:i<t.J.length
 ·have g:=ao e
  repeat'(first|refine gE ?_|(conv=>whnf);first|with_reducible (first|refine CF (aa g) ?_|refine Bf.D (λb=>?_) (λb=>?_)|refine Bf.N (λb=>?_) (λb=>?_)|refine Bf.E (λb=>?_) (λb=>?_))|refine CU cw (λr h=>by rw[V1.1 h];rfl) (by simp[aZ,dS]) (by simp;omega) (by simp only[I1];exact wZ (by simp;omega) (by decide)) rfl ?_)
  all_goals first
   |(have a:M9 t f i=true:=O0 (by grind)
     (conv=>whnf)
     refine CG (i+1) ω ω ?_;rw[B0 a]
     (repeat'(first|exact trivial|rfl|exact CN rfl (CN (Z0 (C.s dN.own) (by simp[rI])) trivial)|refine CN ?_ ?_)))
   |(have a:M9 t f i=false:=W0 (by grind)
     (conv=>whnf)
     refine CG (i+1) ω ω ?_;rw[FA a]
     (exact wA))
 repeat'(first|refine gE ?_|fail)
 obtain rfl:i=t.J.length:=ω
 rfl
def du(t:aH)(p:Int)(b:aH.sml t):zzA 48 false [.val (some 1) (aH.enc .U t),.val none [I p]] .agg (bk.enc .own (ac t p)):=by
 have d:=b.1;refine fO 18 [] Tryz.func48 rfl ?_ (.inr (bk.enc_fr _));by_cases a:0<=p/\p<t.J.length
 ·have c:=ao (xs:=t.J) (i:=p.toNat) ω
  repeat'(first|refine gE ?_|(conv=>whnf);first|refine C9 (aI _ 0 _) ?_|refine CP a.1 (aa c) ?_)
  all_goals(unfold ac;rw[CD a];rfl)
 repeat'(first|refine gE ?_|(conv=>whnf);first|refine C9 (aI _ 0 _) ?_)
 all_goals(unfold ac;rw[CB a];rfl)
def gM(t:aH)(p:Int)(b:aH.sml t):zzA 139 false [.val (some 1) (aH.enc .U t),.val none [I p]] .agg (bk.enc .own (ac t p)):=by
 have d:=b.1;refine fO 18 [] Tryz.func139 rfl ?_ (.inr (bk.enc_fr _));by_cases a:0<=p/\p<t.J.length
 ·have c:=ao (xs:=t.J) (i:=p.toNat) ω
  repeat'(first|refine gE ?_|(conv=>whnf);first|refine C9 (aO _ 0 _) ?_|refine CP a.1 (aa c) ?_)
  all_goals(unfold ac;rw[CD a];rfl)
 repeat'(first|refine gE ?_|(conv=>whnf);first|refine C9 (aO _ 0 _) ?_)
 all_goals(unfold ac;rw[CB a];rfl)
def rq(t:aH)(f:Int):(pagesOn t f).length<=t.J.length:=tM ..
def pE(m:aR)(b:aR.sml m):zzA 364 false [.val (some 3) (aR.enc .U m)] .one [B (dC m)]:=by
 have q:m.W.a6.length<=1048576:=b.1.2;have l:m.W.T.length<=1048576:=b.1.1.1;have c:=qV m.W b.1;have e:=Dl m.R m.W.T.length b.2;cases a:dc m.W with
 | false=>
  rw[a]at c;refine fO 39 [(6,13,[26,27,28,29,30,31,32,33,34,35,36,37,38])] Tryz.func364 rfl ?_
  repeat'(first|refine gP ?_|(conv=>whnf);first|refine C9 c ?_)
  exact Z0 (λz=>[B z]) ((by unfold dC;rw[a];rfl))
 | true=>
  have g:=DP a;rw[a]at c;cases d:gx m.R m.W.a6.length with
  | false=>
   rw[show(m.W.T.length:Int)=m.W.a6.length by omega,d]at e;refine fO 39 [(6,13,[26,27,28,29,30,31,32,33,34,35,36,37,38])] Tryz.func364 rfl ?_
   repeat'(first|refine gP ?_|(conv=>whnf);first|refine C9 c ?_|refine C9 ((show(m.W.T.length:Int)=m.W.a6.length by omega) ▸ e) ?_)
   exact Z0 (λz=>[B z]) ((by unfold dC;rw[a,d];rfl))
  | true=>
   rw[show(m.W.T.length:Int)=m.W.a6.length by omega,d]at e;refine fO 39 [(6,13,[26,27,28,29,30,31,32,33,34,35,36,37,38])] Tryz.func364 rfl ?_
   repeat'(first|refine gP ?_|(conv=>whnf);first|refine C9 c ?_|refine C9 ((show(m.W.T.length:Int)=m.W.a6.length by omega) ▸ e) ?_)
   (conv=>whnf)
   refine CH (ι:=Nat) (λi=>[(1,.H .box (aR.enc .U m)),(3,.H .one [I ((i:Nat):Int)])]) (λi=>i<=m.W.a6.length/\cE i (pJ m)=true) (λi=>m.W.a6.length - i) 0 ?_ ⟨X0 _,rfl⟩ λi h=>?_
   ·exact wB
   obtain⟨h,j⟩:=h;by_cases k:i<m.W.a6.length
   ·have n:=ao k
    have o:=rq m.R (i:Nat)
    repeat'(first|refine gE ?_|(conv=>whnf);first|with_reducible (first|refine CF (aa n) ?_|refine Bf.NB (λp=>?_) (λp=>?_))|refine C9 (gU m.R (i:Nat) b.2) ?_)
    all_goals first
     | exact Z0 (λz=>[B z]) ((by symm;unfold dC;rw[a,d,bX k (by unfold pJ;grind)];rfl))
     | ((conv=>whnf);refine CG (i+1) ⟨ω,br j (by unfold pJ;grind)⟩ ω ?_;(exact wB))
   repeat'(first|refine gE ?_|fail)
   obtain rfl:i=m.W.a6.length:=ω
   exact Z0 (λz=>[B z]) ((by unfold dC;rw[a,d,j];rfl))
def qf(m:aR)(d:aR.sml m):zzA 84 false [.val (some 3) (aR.enc .U m)] .one [B (dC m)]:=by
 have o:m.W.a6.length<=1048576:=d.1.2;have b:=qT m.W d.1;have e:=DZ m.R m.W.a6.length d.2;cases a:dc m.W with
 | false=>
  rw[a]at b;refine fO 37 [] Tryz.func84 rfl ?_
  repeat'(first|refine gP ?_|(conv=>whnf);first|refine C9 b ?_)
  exact Z0 (λz=>[B z]) ((by unfold dC;rw[a];rfl))
 | true=>
  rw[a]at b;cases c:gx m.R m.W.a6.length with
  | false=>
   rw[c]at e;refine fO 37 [] Tryz.func84 rfl ?_
   repeat'(first|refine gP ?_|(conv=>whnf);first|refine C9 b ?_|refine C9 e ?_)
   exact Z0 (λz=>[B z]) ((by unfold dC;rw[a,c];rfl))
  | true=>
   rw[c]at e;refine fO 37 [] Tryz.func84 rfl ?_
   repeat'(first|refine gP ?_|(conv=>whnf);first|refine C9 b ?_|refine C9 e ?_)
   (conv=>whnf)
   refine CH (ι:=Nat) (λi=>[(1,.H .box (aR.enc .U m)),(21,.H .one (iu .U m.W.a6)),(22,.H .one [I (m.W.a6.length)]),(23,.H .one [I ((i:Nat):Int)])]) (λi=>i<=m.W.a6.length/\cE i (pJ m)=true) (λi=>m.W.a6.length - i) 0 ?_ ⟨X0 _,rfl⟩ λi g=>?_
   ·exact wB
   obtain⟨g,h⟩:=g;by_cases j:i<m.W.a6.length
   ·have k:=ao j
    have l:=rq m.R (i:Nat)
    repeat'(first|refine gE ?_|(conv=>whnf);first|with_reducible (first|refine CF (aa k) ?_|refine Bf.NB (λn=>?_) (λn=>?_))|refine C9 (tj m.R (i:Nat) d.2) ?_)
    all_goals first
     | exact Z0 (λz=>[B z]) ((by symm;unfold dC;rw[a,c,bX j (by unfold pJ;grind)];rfl))
     | ((conv=>whnf);refine CG (i+1) ⟨ω,br h (by unfold pJ;grind)⟩ ω ?_;(exact wB))
   repeat'(first|refine gE ?_|fail)
   obtain rfl:i=m.W.a6.length:=ω
   exact Z0 (λz=>[B z]) ((by unfold dC;rw[a,c,h];rfl))
def mI(k:ah)(d:ah.sml k):zzA 223 false [.val (some 5) (ah.enc .U k)] .one [B (aA k)]:=by
 have n:k.a0.length<=1048576:=d.2;have a:=pE k.F d.1;refine fO 31 [] Tryz.func223 rfl ?_
 repeat'(first|refine gP ?_|fail)
 (conv=>whnf)
 refine CH (ι:=Nat) (λi=>[(1,.H .box (ah.enc .U k)),(3,.H .one [I ((i:Nat):Int)])]) (λi=>i<=k.a0.length/\cE i (λj=>decide (0<=nth k.a0 j))=true) (λi=>k.a0.length - i) 0 ?_ ⟨X0 _,rfl⟩ λi e=>?_
 ·exact wB
 obtain⟨e,g⟩:=e;by_cases h:i<k.a0.length
 ·have l:=ao h
  repeat'(first|refine gE ?_|(conv=>whnf);first|with_reducible (first|refine CF (aa l) ?_|refine Bf.D (λc=>?_) (λc=>?_)))
  all_goals first
   | exact Z0 (λz=>[B z]) ((by symm;unfold aA;rw[bX h (W0 ω)];rfl))
   | ((conv=>whnf);refine CG (i+1) ⟨ω,br g (O0 ω)⟩ ω ?_;(exact wB))
 obtain rfl:i=k.a0.length:=ω
 cases b:dC k.F with
 | false=>
  rw[b]at a
  repeat'(first|refine gE ?_|(conv=>whnf);first|refine C9 a ?_)
  all_goals exact Z0 (λz=>[B z]) ((by unfold aA;rw[b];simp))
 | true=>
  rw[b]at a
  repeat'(first|refine gE ?_|(conv=>whnf);first|with_reducible refine Bf.D (λc=>?_) (λc=>?_)|refine C9 a ?_|refine C9 (aI _ 0 100000) ?_)
  all_goals exact Z0 (λz=>[B z]) ((by unfold aA;rw[b,g];simp only[Bool.true_and];first|exact decide_eq_decide.2 ω|(symm;exact W0 ω)|(symm;exact O0 ω)))
def zX(k:ah)(b:ah.sml k):zzA 27 false [.val (some 5) (ah.enc .U k)] .one [B (aA k)]:=by
 have l:k.a0.length<=1048576:=b.2;have g:=qf k.F b.1;refine fO 29 [] Tryz.func27 rfl ?_
 repeat'(first|refine gP ?_|fail)
 (conv=>whnf)
 refine CH (ι:=Nat) (λi=>[(1,.H .box (ah.enc .U k)),(6,.H .one (aD .U k.a0)),(7,.H .one [I (k.a0.length)]),(8,.H .one [I ((i:Nat):Int)])]) (λi=>i<=k.a0.length/\cE i (λj=>decide (0<=nth k.a0 j))=true) (λi=>k.a0.length - i) 0 ?_ ⟨X0 _,rfl⟩ λi c=>?_
 ·exact wB
 obtain⟨c,d⟩:=c;by_cases e:i<k.a0.length
 ·have h:=ao e
  repeat'(first|refine gE ?_|(conv=>whnf);first|with_reducible (first|refine CF (aa h) ?_|refine Bf.D (λa=>?_) (λa=>?_)))
  all_goals first
   | exact Z0 (λz=>[B z]) ((by symm;unfold aA;rw[bX e (W0 ω)];rfl))
   | ((conv=>whnf);refine CG (i+1) ⟨ω,br d (O0 ω)⟩ ω ?_;(exact wB))
 obtain rfl:i=k.a0.length:=ω
 repeat'(first|refine gE ?_|(conv=>whnf);first|with_reducible refine Bf.D (λa=>?_) (λa=>?_)|refine C9 g ?_|refine C9 (aO _ 0 100000) ?_)
 all_goals exact Z0 (λz=>[B z]) ((by unfold aA;rw[d];cases dC k.F<;>simp only[Bool.true_and,Bool.false_and]<;>first|rfl|exact decide_eq_decide.2 ω|(symm;exact W0 ω)|(symm;exact O0 ω)))
def yS(pages:Int)(r:aB)(b:0<=pages/\pages<=1048576):zzA 365 false [.val none [I pages],.val (some 2) (aB.enc .U r)] .one [B (rangeIn pages r)]:=by
 refine fO 18 [] Tryz.func365 rfl ?_
 repeat'(first|refine gP ?_|(conv=>whnf);first|with_reducible refine Bf.D (λa=>?_) (λa=>?_)|refine C9 (aI _ 1 _) ?_|refine C9 (aI _ 0 _) ?_)
 all_goals exact Z0 (λz=>[B z]) ((by unfold rangeIn;first|(symm;exact W0 ω)|exact decide_eq_decide.2 ω))
def HF(pages:Int)(r:aB)(b:0<=pages/\pages<=1048576):zzA 238 false [.val none [I pages],.val (some 2) (aB.enc .U r)] .one [B (rangeIn pages r)]:=by
 refine fO 18 [] Tryz.func238 rfl ?_
 repeat'(first|refine gP ?_|(conv=>whnf);first|with_reducible refine Bf.D (λa=>?_) (λa=>?_)|refine C9 (aO _ 1 _) ?_|refine C9 (aO _ 0 _) ?_)
 all_goals exact Z0 (λz=>[B z]) ((by unfold rangeIn;first|(symm;exact W0 ω)|exact decide_eq_decide.2 ω))
def nB(k:Int):zzA 475 false [.val none [I k]] .one [I (slots k)]:=by
 by_cases b:0<=k/\k<=3
 ·obtain rfl|rfl|rfl|rfl:k=0\/k=1\/k=2\/k=3:=ω
  all_goals
   refine fO 9 [] Tryz.func475 rfl ?_
   repeat'(first|refine gE ?_|(conv=>whnf);first|with_reducible refine Bf.D (λa=>?_) (λa=>?_)|refine C9 (aI _ 0 3) ?_|refine CQ (by decide) ?_|refine CO rfl ?_|refine CX rfl ?_)
   exact Z0 (λz=>[I z]) (by decide)
 refine fO 9 [] Tryz.func475 rfl ?_
 repeat'(first|refine gE ?_|(conv=>whnf);first|with_reducible refine Bf.D (λa=>?_) (λa=>?_)|refine C9 (aI _ 0 3) ?_)
 exact Z0 (λz=>[I z]) (by unfold slots;rw[CB ω,CB ω,CB ω,CB ω])
def jr(k:Int):zzA 349 false [.val none [I k]] .one [I (slots k)]:=by
 by_cases b:0<=k/\k<=3
 ·obtain rfl|rfl|rfl|rfl:k=0\/k=1\/k=2\/k=3:=ω
  all_goals
   refine fO 9 [] Tryz.func349 rfl ?_
   repeat'(first|refine gE ?_|(conv=>whnf);first|with_reducible refine Bf.D (λa=>?_) (λa=>?_)|refine C9 (gg _) ?_|refine C9 (cW _) ?_|refine CQ (by decide) ?_|refine CO rfl ?_|refine CX rfl ?_)
   exact Z0 (λz=>[I z]) (by decide)
 refine fO 9 [] Tryz.func349 rfl ?_
 repeat'(first|refine gE ?_|(conv=>whnf);first|with_reducible refine Bf.D (λa=>?_) (λa=>?_)|refine C9 (gg _) ?_)
 exact Z0 (λz=>[I z]) (by unfold slots;rw[CB ω,CB ω,CB ω,CB ω])
def Nc(k b:Int):Bool:=decide (0<=k/\k<=3/\0<=b/\b<=lim k)
def re(k b:Int):zzA 474 false [.val none [I (slots k)],.val none [I b]] .one [B (Nc k b)]:=by
 by_cases d:0<=k/\k<=3
 ·obtain rfl|rfl|rfl|rfl:k=0\/k=1\/k=2\/k=3:=ω
  all_goals
   first|rw[show slots 0=16 from rfl]|rw[show slots 1=8 from rfl]|rw[show slots 2=4 from rfl]|rw[show slots 3=2 from rfl]
   refine fO 15 [] Tryz.func474 rfl ?_
   repeat'(first|refine gE ?_|(conv=>whnf);first|with_reducible refine Bf.D (λa=>?_) (λa=>?_)|refine C9 (aI _ 1 16) ?_|refine C9 (aI _ 0 _) ?_|refine CQ (by decide) ?_|refine CO (show _=(65536:Int) by decide) ?_|refine CO (show _=(65535:Int) by decide) ?_|refine CO (show _=(256:Int) by decide) ?_|refine CO (show _=(255:Int) by decide) ?_|refine CO (show _=(16:Int) by decide) ?_|refine CO (show _=(15:Int) by decide) ?_|refine CO (show _=(4:Int) by decide) ?_|refine CO (show _=(8:Int) by decide) ?_|refine CO (show _=(2:Int) by decide) ?_|refine CO (show _=(3:Int) by decide) ?_)
   all_goals exact Z0 (λz=>[B z]) ((decide_eq_decide.2 (by simp[lim])))
 have c:slots k=0:=by unfold slots;rw[CB ω,CB ω,CB ω,CB ω]
 rw[c];refine fO 15 [] Tryz.func474 rfl ?_
 repeat'(first|refine gE ?_|(conv=>whnf);first|with_reducible refine Bf.D (λa=>?_) (λa=>?_)|refine C9 (aI _ 1 16) ?_)
 exact Z0 (λz=>[B z]) ((by symm;exact W0 ω))
def zB(k b:Int):zzA 389 false [.val none [I (slots k)],.val none [I b]] .one [B (Nc k b)]:=by
 by_cases d:0<=k/\k<=3
 ·obtain rfl|rfl|rfl|rfl:k=0\/k=1\/k=2\/k=3:=ω
  all_goals
   first|rw[show slots 0=16 from rfl]|rw[show slots 1=8 from rfl]|rw[show slots 2=4 from rfl]|rw[show slots 3=2 from rfl]
   refine fO 14 [] Tryz.func389 rfl ?_
   repeat'(first|refine gE ?_|(conv=>whnf);first|with_reducible refine Bf.D (λa=>?_) (λa=>?_)|refine C9 (aO _ 1 16) ?_|refine C9 (aO _ 0 _) ?_|refine CQ (by decide) ?_|refine CO (eZ (by decide) (by decide)) ?_)
   all_goals exact Z0 (λz=>[B z]) ((decide_eq_decide.2 (by simp[lim,IntKind.bits])))
 have c:slots k=0:=by unfold slots;rw[CB ω,CB ω,CB ω,CB ω]
 rw[c];refine fO 14 [] Tryz.func389 rfl ?_
 repeat'(first|refine gE ?_|(conv=>whnf);first|with_reducible refine Bf.D (λa=>?_) (λa=>?_)|refine C9 (aO _ 1 16) ?_)
 exact Z0 (λz=>[B z]) ((by symm;exact W0 ω))
def fW(s:ax):zzA 366 false [.val (some 3) (ax.enc .U s)] .one [B (bi s)]:=by
 refine fO 14 [(1,12,[3,4,5,6,7,8,9,10,11,12,13,2])] Tryz.func366 rfl ?_
 repeat'(first|refine gP ?_|(conv=>whnf);first|with_reducible refine Bf.D (λa=>?_) (λa=>?_)|refine C9 (aI _ 0 31) ?_|refine C9 (nB _) ?_|refine C9 (re _ _) ?_)
 all_goals exact Z0 (λz=>[B z]) ((by unfold bi;first|(symm;exact W0 ω)|exact decide_eq_decide.2 ω))
def iX(s:ax):zzA 240 false [.val (some 3) (ax.enc .U s)] .one [B (bi s)]:=by
 refine fO 19 [(1,17,[3,4,5,6,7,8,9,10,11,12,13,14,15,16,17,18,2])] Tryz.func240 rfl ?_
 repeat'(first|refine gP ?_|(conv=>whnf);first|with_reducible refine Bf.D (λa=>?_) (λa=>?_)|refine C9 (aO _ 0 31) ?_|refine C9 (gg _) ?_|refine C9 (jr _) ?_|refine C9 (zB _ _) ?_)
 all_goals exact Z0 (λz=>[B z]) ((by unfold bi;first|(symm;exact W0 ω)|exact decide_eq_decide.2 ω))
section
variable{α:Type}{xs:List α}{p:α->Bool}{i:Nat}{y:α}
def Dm(h:xs[i]? = some y)(a:p y=true):xs.any p=true:=O4.2 ⟨y,I2 h,a⟩
def ym(h:xs[i]? = some y)(a:(xs.take i).any p=false)(b:p y=false):(xs.take (i+1)).any p=false:=by
 rw[O6,h,List.any_append,a];simp[b]
def J2(a:xs.length<=i)(b:(xs.take i).any p=false):xs.any p=false:=by
 rwa [C8 a]at b
def gC[Inhabited α](a:0<i)(b:i<xs.length):xs[((i:Int) - 1).toNat]? = some (nth xs (i - 1)):=by
 rw[show((i:Int) - 1).toNat=i - 1 by omega];exact ao ω
end
def yE{pages:Int}{xs:List aB}(a:cE n (gy pages xs)=true)(b:i<n):1<=(nth xs i).b0/\(nth xs i).b0<=pages/\0<=(nth xs i).At/\(nth xs i).At<=pages - (nth xs i).b0:=by
 have:=dI a b;unfold gy rangeIn at this;simp only[I0,C0]at this;exact this.1
def mS(pages:Int)(xs:List aB)(e:0<=pages/\pages<=1048576)(k:iH xs):zzA 224 false [.val none [I pages],.val none (bB .U xs)] .one [B (bC pages xs)]:=by
 have n:=k.1;refine fO 46 [(4,32,[12,13,14,15,16,17,18,19,20,21,22,23,24,25,26,27,28,29,30,31,32,33,34,35,36,37,38,39,40,41,42,43])] Tryz.func224 rfl ?_
 repeat'(first|refine gP ?_|fail)
 (conv=>whnf)
 refine CH (ι:=Nat) (λi=>[(0,.H .one [I (pages)]),(1,.H .one (bB .U xs)),(5,.H .one [I ((i:Nat):Int)])]) (λi=>i<=xs.length/\cE i (gy pages xs)=true) (λi=>xs.length - i) 0 ?_ ⟨X0 _,rfl⟩ λi g=>?_
 ·exact wB
 obtain⟨g,d⟩:=g;by_cases c:i<xs.length
 ·have j:=ao c
  have o:0<i->1<=(nth xs (i - 1)).b0/\(nth xs (i - 1)).b0<=pages/\0<=(nth xs (i - 1)).At/\(nth xs (i - 1)).At<=pages - (nth xs (i - 1)).b0:=λh=>yE d ω
  cases a:rangeIn pages (nth xs i) with
  | false=>
   have b:=yS pages (nth xs i) e;rw[a]at b
   repeat'(first|refine gE ?_|(conv=>whnf);first|with_reducible refine CF (aa j) ?_|refine C9 b ?_)
   exact Z0 (λz=>[B z]) ((by symm;unfold bC;rw[bX c (by unfold gy;rw[a];rfl)];rfl))
  | true=>
   have b:=yS pages (nth xs i) e;rw[a]at b
   repeat'(first|refine gE ?_|(conv=>whnf);first|with_reducible (first|refine CF (aa j) ?_|refine Bf.D (λl=>?_) (λl=>?_))|refine C9 b ?_|refine CP ω (aa (gC ω c)) ?_)
   all_goals first
    | exact Z0 (λz=>[B z]) ((by symm;unfold bC;rw[bX c (by unfold gy;rw[a,W0 ω];rfl)];rfl))
    | ((conv=>whnf);refine CG (i+1) ⟨ω,br d (by unfold gy;rw[a,O0 ω];rfl)⟩ ω ?_;(exact wB))
 repeat'(first|refine gE ?_|(conv=>whnf);first|refine C9 (aI pages 1 32) ?_)
 obtain rfl:i=xs.length:=ω
 exact Z0 (λz=>[B z]) ((by unfold bC;rw[d];rfl))
def Al(pages:Int)(xs:List aB)(j:0<=pages/\pages<=1048576)(k:iH xs):zzA 72 false [.val none [I pages],.val none (bB .U xs)] .one [B (bC pages xs)]:=by
 have n:=k.1;refine fO 43 [(4,26,[14,15,16,17,18,19,20,21,22,23,24,25,26,27,28,29,30,31,32,33,34,35,36,37,38,39])] Tryz.func72 rfl ?_
 repeat'(first|refine gP ?_|fail)
 (conv=>whnf)
 refine CH (ι:=Nat) (λi=>[(0,.H .one [I (pages)]),(1,.H .one (bB .U xs)),(7,.H .one (bB .U xs)),(8,.H .one [I (xs.length)]),(9,.H .one [I ((i:Nat):Int)])]) (λi=>i<=xs.length/\cE i (gy pages xs)=true) (λi=>xs.length - i) 0 ?_ ⟨X0 _,rfl⟩ λi e=>?_
 ·exact wB
 obtain⟨e,d⟩:=e;by_cases b:i<xs.length
 ·have g:=ao b
  have o:0<i->1<=(nth xs (i - 1)).b0/\(nth xs (i - 1)).b0<=pages/\0<=(nth xs (i - 1)).At/\(nth xs (i - 1)).At<=pages - (nth xs (i - 1)).b0:=λh=>yE d ω
  have c:=HF pages (nth xs i) j;cases a:rangeIn pages (nth xs i) with
  | false=>
   rw[a]at c
   repeat'(first|refine gE ?_|(conv=>whnf);first|with_reducible refine CF (aa g) ?_|refine C9 c ?_)
   exact Z0 (λz=>[B z]) ((by symm;unfold bC;rw[bX b (by unfold gy;rw[a];rfl)];rfl))
  | true=>
   rw[a]at c
   repeat'(first|refine gE ?_|(conv=>whnf);first|with_reducible (first|refine CF (aa g) ?_|refine Bf.D (λl=>?_) (λl=>?_))|refine C9 c ?_|refine CP ω (aa (gC ω b)) ?_)
   all_goals first
    | exact Z0 (λz=>[B z]) ((by symm;unfold bC;rw[bX b (by unfold gy;rw[a,W0 ω];rfl)];rfl))
    | ((conv=>whnf);refine CG (i+1) ⟨ω,br d (by unfold gy;rw[a,O0 ω];rfl)⟩ ω ?_;(exact wB))
 repeat'(first|refine gE ?_|(conv=>whnf);first|refine C9 (aO pages 1 32) ?_)
 obtain rfl:i=xs.length:=ω
 exact Z0 (λz=>[B z]) ((by unfold bC;rw[d];rfl))
def zJ(xs:List aB)(page:Int)(g:xs.length<=9223372036854775807):zzA 370 false [.val none (bB .U xs),.val none [I page]] .one [B (xs.any (rn page))]:=by
 refine fO 34 [(4,22,[12,13,14,15,16,17,18,19,20,21,22,23,24,25,26,27,28,29,30,31,32,33])] Tryz.func370 rfl ?_
 repeat'(first|refine gP ?_|fail)
 (conv=>whnf)
 refine CH (ι:=Nat) (λi=>[(0,.H .one (bB .U xs)),(1,.H .one [I (page)]),(5,.H .one [I ((i:Nat):Int)])]) (λi=>i<=xs.length/\(xs.take i).any (rn page)=false) (λi=>xs.length - i) (0) ?_ (⟨X0 _,rfl⟩) λi b=>?_
 ·exact wB
 obtain⟨b,c⟩:=b;by_cases d:i<xs.length
 ·have a:=ao d
  repeat'(first|refine gE ?_|(conv=>whnf);first|with_reducible (first|refine CF (aa a) ?_|refine Bf.D (λe=>?_) (λe=>?_))|refine CO rfl ?_)
  all_goals first
   | exact Z0 (λz=>[B z]) ((Dm a (by unfold rn;rw[O0 (by assumption),O0 (by assumption)];rfl)).symm)
   | ((conv=>whnf);refine CG (i+1) ⟨ω,ym a c (by unfold rn;first|(rw[W0 (by assumption:¬(nth xs i).At<=page)];rfl)|(rw[W0 (by assumption:¬page<_)];simp))⟩ ω ?_;(exact wB))
 repeat'(first|refine gE ?_|fail)
 exact Z0 (λz=>[B z]) ((J2 ω c).symm)
def tdiv16(h:0<=z):z.tdiv 16=z / 16:=Int.tdiv_eq_ediv_of_nonneg h
def mP(z:Int):zzA 384 false [.val none [I z]] .one [I (fH z)]:=by
 refine fO 10 [] Tryz.func384 rfl ?_;by_cases b:9<=z/\z<=1000
 ·repeat'(first|refine gE ?_|(conv=>whnf);first|with_reducible refine Bf.D (λa=>?_) (λa=>?_)|refine C9 (aI z 9 1000) ?_|refine CQ (by decide) ?_|refine CO ((Z0 _ (tdiv16 ω)).trans (eZ ω ω)) ?_)
  all_goals exact Z0 (λz=>[I z]) (by unfold fH;rw[CD b];omega)
 repeat'(first|refine gE ?_|(conv=>whnf);first|with_reducible refine Bf.D (λa=>?_) (λa=>?_)|refine C9 (aI z 9 1000) ?_)
 all_goals exact Z0 (λz=>[I z]) (by unfold fH;rw[CB b])
def Af(z:Int):zzA 206 false [.val none [I z]] .one [I (fH z)]:=by
 refine fO 10 [] Tryz.func206 rfl ?_;by_cases b:9<=z/\z<=1000
 ·repeat'(first|refine gE ?_|(conv=>whnf);first|with_reducible refine Bf.D (λa=>?_) (λa=>?_)|refine C9 (aO z 9 1000) ?_|refine CQ (by decide) ?_|refine CO ((Z0 _ (tdiv16 ω)).trans (eZ ω ω)) ?_)
  all_goals exact Z0 (λz=>[I z]) (by unfold fH;rw[CD b];omega)
 repeat'(first|refine gE ?_|(conv=>whnf);first|with_reducible refine Bf.D (λa=>?_) (λa=>?_)|refine C9 (aO z 9 1000) ?_)
 all_goals exact Z0 (λz=>[I z]) (by unfold fH;rw[CB b])
def oH(l:a7):zzA 368 false [.val (some 3) (a7.enc .U l)] .one [B (bF l)]:=by
 have b:=mP l.o;by_cases c:9<=l.o/\l.o<=1000
 ·rw[show fH l.o=(l.o+15) / 16 from CD c]at b
  refine fO 22 [] Tryz.func368 rfl ?_
  repeat'(first|refine gP ?_|(conv=>whnf);first|with_reducible (first|refine Bf.D (λa=>?_) (λa=>?_)|refine Bf.E (λa=>?_) (λa=>?_))|refine C9 b ?_|refine C9 (aI _ 0 _) ?_)
  all_goals exact Z0 (λz=>[B z]) ((by unfold bF;first|(symm;exact W0 ω)|exact decide_eq_decide.2 ω))
 rw[show fH l.o=0 from CB c]at b;refine fO 22 [] Tryz.func368 rfl ?_
 repeat'(first|refine gE ?_|(conv=>whnf);first|with_reducible refine Bf.D (λa=>?_) (λa=>?_)|refine C9 b ?_)
 all_goals exact Z0 (λz=>[B z]) ((by unfold bF;symm;exact W0 ω))
def t7(l:a7):zzA 241 false [.val (some 3) (a7.enc .U l)] .one [B (bF l)]:=by
 have b:=Af l.o;by_cases c:9<=l.o/\l.o<=1000
 ·rw[show fH l.o=(l.o+15) / 16 from CD c]at b
  refine fO 22 [(1,20,[3,4,5,6,7,8,9,10,11,12,13,14,15,16,17,18,19,20,21,2])] Tryz.func241 rfl ?_
  repeat'(first|refine gE ?_|(conv=>whnf);first|with_reducible (first|refine Bf.D (λa=>?_) (λa=>?_)|refine Bf.E (λa=>?_) (λa=>?_))|refine C9 b ?_|refine C9 (aO _ 9 1000) ?_|refine C9 (aO _ 0 _) ?_)
  all_goals exact Z0 (λz=>[B z]) ((by unfold bF;first|(symm;exact W0 ω)|exact decide_eq_decide.2 ω))
 refine fO 22 [(1,20,[3,4,5,6,7,8,9,10,11,12,13,14,15,16,17,18,19,20,21,2])] Tryz.func241 rfl ?_
 repeat'(first|refine gE ?_|(conv=>whnf);first|with_reducible refine Bf.D (λa=>?_) (λa=>?_)|refine C9 (aO _ 9 1000) ?_)
 all_goals exact Z0 (λz=>[B z]) ((by unfold bF;symm;exact W0 ω))
def oe(h:0<=z/\z<=9223372036854775807):(BitVec.ofInt IntKind.i64.bits z).toNat=z.toNat:=by
 show(BitVec.ofInt 64 z).toNat=z.toNat;rw[BitVec.toNat_ofInt]
 congr 1
 exact Int.emod_eq_of_lt h.1 (by show z<((2 ^ 64:Nat):Int);have:=h.2;norm_cast;omega)
def and64{z1 z2:Int}(h1:0<=z1/\z1<=9223372036854775807)(a:0<=z2/\z2<=9223372036854775807):IntKind.i64.wrap ((BitVec.ofInt IntKind.i64.bits z1 &&& BitVec.ofInt IntKind.i64.bits z2).toNat:Nat)=((z1.toNat &&& z2.toNat:Nat):Int):=by
 rw[BitVec.toNat_and,oe h1,oe a];have:z1.toNat &&& z2.toNat<=z1.toNat:=Nat.and_le_left;exact eZ ω ω
def Hz(k:Int):lim k<=65535:=by
 unfold lim
 (repeat' split)<;>decide
variable{s:ax}
def eP(h:bi s=true):0<=s.b1/\s.b1<=9223372036854775807:=by
 unfold bi at h;simp only[C0]at h;have:=Hz s.a;omega
def mR(b c:ax):zzA 371 false [.val (some 3) (ax.enc .U b),.val (some 3) (ax.enc .U c)] .one [B (meshable b c)]:=by
 have g:=fW b;have h:=fW c;cases d:bi b<;>rw[d]at g<;>cases e:bi c<;>rw[e]at h
 all_goals
  refine fO 33 [] Tryz.func371 rfl ?_
  repeat'(first|refine gP ?_|(conv=>whnf);first|with_reducible (first|refine Bf.D (λa=>?_) (λa=>?_)|refine Bf.N (λa=>?_) (λa=>?_)|refine Bf.E (λa=>?_) (λa=>?_))|refine C9 g ?_|refine C9 h ?_|refine CO (and64 (eP d) (eP e)) ?_)
  all_goals exact Z0 (λz=>[B z]) ((by unfold meshable;rw[d,e];first|rfl|(symm;exact W0 ω)|(rw[I5];simp;omega)))
def zP(b c:ax):zzA 244 false [.val (some 3) (ax.enc .U b),.val (some 3) (ax.enc .U c)] .one [B (meshable b c)]:=by
 have g:=iX b;have h:=iX c;cases d:bi b<;>rw[d]at g<;>cases e:bi c<;>rw[e]at h
 all_goals
  refine fO 33 [] Tryz.func244 rfl ?_
  repeat'(first|refine gP ?_|(conv=>whnf);first|with_reducible (first|refine Bf.D (λa=>?_) (λa=>?_)|refine Bf.N (λa=>?_) (λa=>?_)|refine Bf.E (λa=>?_) (λa=>?_))|refine C9 g ?_|refine C9 h ?_|refine CO (and64 (eP d) (eP e)) ?_)
  all_goals exact Z0 (λz=>[B z]) ((by unfold meshable;rw[d,e];first|rfl|(symm;exact W0 ω)|(rw[I5];simp;omega)))
def KV(k:Int):zzA 394 false [.val none [I k]] .one [B (decide (0<=k/\k<=15))]:=by
 refine fO 5 [] Tryz.func394 rfl ?_
 repeat'(first|refine gP ?_|(conv=>whnf);first|refine C9 (aO k 0 15) ?_)
 rfl
def vQ(p:cJ)(e:cJ.sml p):zzA 379 false [.val (some 3) (cJ.enc .U p)] .one [B (eU p)]:=by
 have h:p.T.length<=1048576:=e;refine fO 51 [(4,25,[11,12,13,14,15,16,17,18,19,20,21,22,23,24,25,26,27,28,29,30,31,32,33,34,35])] Tryz.func379 rfl ?_
 repeat'(first|refine gP ?_|fail)
 (conv=>whnf)
 refine CH (ι:=Nat) (λi=>[(1,.H .box (cJ.enc .U p)),(3,.H .one [I ((i:Nat):Int)])]) (λi=>i<=p.T.length/\cE i (mV p.T)=true) (λi=>p.T.length - i) 0 ?_ ⟨X0 _,rfl⟩ λi c=>?_
 ·exact wB
 obtain⟨c,d⟩:=c;by_cases b:i<p.T.length
 ·have g:=ao b
  repeat'(first|refine gE ?_|(conv=>whnf);first|with_reducible (first|refine CF (aa g) ?_|refine Bf.D (λa=>?_) (λa=>?_))|refine C9 (aI _ 0 15) ?_|refine CP ω (aa (gC ω b)) ?_)
  all_goals first
   | exact Z0 (λz=>[B z]) ((by symm;unfold eU;rw[bX b (W0 ω)];rfl))
   | ((conv=>whnf);refine CG (i+1) ⟨ω,br d (O0 ω)⟩ ω ?_;(exact wB))
 obtain rfl:i=p.T.length:=ω
 repeat'(first|refine gE ?_|(conv=>whnf);first|with_reducible (first|refine Bf.D (λa=>?_) (λa=>?_)|refine Bf.NB (λa=>?_) (λa=>?_)|refine Bf.N (λa=>?_) (λa=>?_))|refine C9 (aI _ 0 31) ?_)
 all_goals exact Z0 (λz=>[B z]) ((by unfold eU;rw[d];simp only[Bool.true_and];first|(symm;exact W0 ω)|exact decide_eq_decide.2 ω|(rw[I5];simp;omega)))
def GJ(p:cJ)(e:cJ.sml p):zzA 251 false [.val (some 3) (cJ.enc .U p)] .one [B (eU p)]:=by
 have h:p.T.length<=1048576:=e;refine fO 46 [] Tryz.func251 rfl ?_
 repeat'(first|refine gP ?_|fail)
 (conv=>whnf)
 refine CH (ι:=Nat) (λi=>[(1,.H .box (cJ.enc .U p)),(6,.H .one (aD .U p.T)),(7,.H .one [I (p.T.length)]),(8,.H .one [I ((i:Nat):Int)])]) (λi=>i<=p.T.length/\cE i (mV p.T)=true) (λi=>p.T.length - i) 0 ?_ ⟨X0 _,rfl⟩ λi c=>?_
 ·exact wB
 obtain⟨c,d⟩:=c;by_cases b:i<p.T.length
 ·have g:=ao b
  repeat'(first|refine gE ?_|(conv=>whnf);first|with_reducible (first|refine CF (aa g) ?_|refine Bf.D (λa=>?_) (λa=>?_))|refine C9 (KV _) ?_|refine CP ω (aa (gC ω b)) ?_)
  all_goals first
   | exact Z0 (λz=>[B z]) ((by symm;unfold eU;rw[bX b (W0 ω)];rfl))
   | ((conv=>whnf);refine CG (i+1) ⟨ω,br d (O0 ω)⟩ ω ?_;(exact wB))
 obtain rfl:i=p.T.length:=ω
 repeat'(first|refine gE ?_|(conv=>whnf);first|with_reducible (first|refine Bf.D (λa=>?_) (λa=>?_)|refine Bf.NB (λa=>?_) (λa=>?_)|refine Bf.N (λa=>?_) (λa=>?_))|refine C9 (aO _ 0 31) ?_)
 all_goals exact Z0 (λz=>[B z]) ((by unfold eU;rw[d];simp only[Bool.true_and];first|(symm;exact W0 ω)|exact decide_eq_decide.2 ω|(rw[I5];simp;omega)))
def yg(j:cA)(a:cA.sml j):zzA 233 false [.val (some 5) (cA.enc .U j)] .one [B (kx j)]:=by
 have e:j.X.T.length<=1048576:=a;have b:=vQ j.X a;cases c:eU j.X<;>rw[c]at b
 all_goals
  refine fO 20 [] Tryz.func233 rfl ?_
  repeat'(first|refine gP ?_|(conv=>whnf);first|with_reducible refine Bf.D (λd=>?_) (λd=>?_)|refine C9 b ?_|refine C9 (aI _ 0 5) ?_|refine C9 (aI _ 0 _) ?_)
  all_goals exact Z0 (λz=>[B z]) ((by unfold kx;rw[c];first|rfl|(symm;exact W0 ω)|(rw[I5];simp;omega)))
def Hr(j:cA)(a:cA.sml j):zzA 81 false [.val (some 5) (cA.enc .U j)] .one [B (kx j)]:=by
 have e:j.X.T.length<=1048576:=a;have b:=GJ j.X a;cases c:eU j.X<;>rw[c]at b
 all_goals
  refine fO 20 [] Tryz.func81 rfl ?_
  repeat'(first|refine gP ?_|(conv=>whnf);first|with_reducible refine Bf.D (λd=>?_) (λd=>?_)|refine C9 b ?_|refine C9 (aO _ 0 5) ?_|refine C9 (aO _ 0 _) ?_)
  all_goals exact Z0 (λz=>[B z]) ((by unfold kx;rw[c];first|rfl|(symm;exact W0 ω)|(rw[I5];simp;omega)))
def l8(l:a7)(k:Nat):lpgs l (k+1)=lpgs l k++[l.Q+(k:Nat)]:=by
 unfold lpgs;rw[List.range_succ,W6];rfl
def Fy(l:a7)(k:Nat):(lpgs l k).length=k:=by unfold lpgs;simp
def Np(l:a7){k:Nat}(h:k<=n):lpgs l k <+: lpgs l n:=by
 induction n with
 | zero=>
  obtain rfl:k=0:=ω
  exact List.prefix_refl _
 | succ n b=>
  rcases Nat.lt_or_ge n k with a|a
  ·obtain rfl:k=n+1:=ω
   exact List.prefix_refl _
  rw[l8];exact(b a).trans (List.prefix_append ..)
variable{la:List a7}
def p6(sp:List ax){l:a7}(h:la[i]? = some l):pgs sp (la.take (i+1))=pgs sp (la.take i)++lpgs l l.a1.toNat:=by
 unfold pgs;rw[O6,h,List.flatMap_append];simp
def Q3(sp:List ax)(la:List a7)(i:Nat):pgs sp (la.take i) <+: pgs sp la:=by
 unfold pgs;refine(List.prefix_append_right_inj _).2 ?_
 conv=>rhs;rw[<-List.take_append_drop i la,List.flatMap_append]
 exact List.prefix_append ..
variable{S:List Int}
def PT{all:List Int}{p:Int}(h:(S++[p]) <+: all)(b:p∈S):decide all.Nodup=false:=by
 refine W0 λc=>?_
 have a:=c.sublist h.sublist;rw[List.nodup_append]at a;exact a.2.2 p b p (by simp) rfl
def lV{p:Int}(h:S.Nodup)(b:p∉S):(S++[p]).Nodup:=by
 rw[List.nodup_append];exact⟨h,by simp,λx c y a e=>by simp at a;subst a;subst e;exact b c⟩
variable{sp:List ax}
def E2(h:sp[i]? = some s):((sp.take i).map (·.Q)++[s.Q]) <+: pgs sp la:=by
 have a:(sp.take i).map (·.Q)++[s.Q]=(sp.take (i+1)).map (·.Q):=by rw[O6,h];simp
 rw[a];refine List.IsPrefix.trans ?_ (List.prefix_append ..);rw[X4];exact List.take_prefix ..
def Bq{k:Nat}{l:a7}(h:la[i]? = some l)(a:k<l.a1.toNat):(pgs sp (la.take i)++lpgs l k++[l.Q+(k:Nat)]) <+: pgs sp la:=by
 refine List.IsPrefix.trans ?_ (Q3 sp la (i+1));rw[p6 sp h,V6,<-l8];exact(List.prefix_append_right_inj _).2 (Np l a)
def qJ(h:sp[i]? = some s)(a:bi s=false):bp sp la=false:=by
 unfold bp;rw[fe h a];rfl
def qe{l:a7}(h:la[i]? = some l)(a:bF l=false):bp sp la=false:=by
 unfold bp;rw[fe h a];simp
def lc{p:Int}(h:(S++[p]) <+: pgs sp la)(a:p∈S):bp sp la=false:=by
 unfold bp;rw[PT h a];simp
def t8(h1:sp.all bi=true)(a:la.all bF=true)(b:(pgs sp la).Nodup):bp sp la=true:=by
 unfold bp;rw[h1,a,O0 b];rfl
def aM{l:a7}(h:bF l=true):1<=l.a1/\l.a1<=63/\0<=l.Q/\l.Q<=31:=by
 unfold bF at h;simp only[C0]at h;omega
def mE(sp:List ax)(la:List a7)(t:dK sp)(u:dG la):zzA 225 false [.val none (bT .U sp),.val none (bJ .U la)] .one [B (bp sp la)]:=by
 have J:=t.1;have K:=u.1;refine fO 79 [] Tryz.func225 rfl ?_
 repeat'(first|refine gP ?_|fail)
 (conv=>whnf)
 refine CH (ι:=Nat × List Int) (λi=>[(0,.H .one (bT .U sp)),(1,.H .one (bJ .U la)),(5,.H .one (aD .own i.2)),(6,.H .one [I ((i.1:Nat):Int)])]) (λi=>i.1<=sp.length/\i.2=(sp.take i.1).map (·.Q)/\(sp.take i.1).all bi=true/\i.2.Nodup) (λi=>sp.length - i.1) ((0,[])) ?_ (⟨X0 _,rfl,rfl,List.nodup_nil⟩) λi p=>?_
 ·exact wB
 obtain⟨i,S⟩:=i;obtain⟨p,o,h,l⟩:=p;simp only at p o h l |-;have L:S.length=i:=by rw[o,I1,Z1];omega
 by_cases w:i<sp.length
 ·have a:=ao w
  have n:=fW (nth sp i);cases j:bi (nth sp i)<;>rw[j]at n
  ·repeat'(first|refine gE ?_|(conv=>whnf);first|with_reducible refine CF (aa a) ?_|refine C9 n ?_)
   exact Z0 (λz=>[B z]) ((qJ a j).symm)
  repeat'(first|refine gE ?_|(conv=>whnf);first|with_reducible (first|refine CF (aa a) ?_|refine Bf.D (λy=>?_) (λy=>?_))|refine C9 n ?_|refine CL (nq S _ ω) ⟨⟨rfl,d8 _⟩,⟨rfl,rfl⟩,trivial⟩ ?_|refine CU cw (λr E=>by rw[V1.1 E];rfl) (by simp[aZ,dS]) (by simp;omega) (by simp only[I1];exact wZ (by simp;omega) (by decide)) rfl ?_)
  all_goals first
   | exact Z0 (λz=>[B z]) ((lc (S:=S) (by rw[o];exact E2 a) (by assumption)).symm)
   | ((conv=>whnf)
      refine CG (i+1,S++[(nth sp i).Q]) ⟨(by simp only;omega),(by simp only;rw[o,O6,a];simp),(cZ a h j),lV l (by assumption)⟩ (by simp only;omega) ?_
      (repeat'(first|exact trivial|rfl|exact CN rfl (CN (Z0 (C.s dN.own) (by simp[rI])) trivial)|refine CN ?_ ?_)))
 obtain rfl:i=sp.length:=ω
 rw[Y5]at h o
 repeat'(first|refine gE ?_|fail)
 (conv=>whnf)
 refine CH (ι:=Nat × List Int) (λi=>[(1,.H .one (bJ .U la)),(5,.H .one (aD .own i.2)),(7,.H .one [I ((i.1:Nat):Int)])]) (λi=>i.1<=la.length/\i.2=pgs sp (la.take i.1)/\(la.take i.1).all bF=true/\i.2.Nodup/\i.2.length<=1048576+64*i.1) (λi=>la.length - i.1) ((0,S)) ?_ (⟨X0 _,by rw[o];unfold pgs;simp,rfl,l,by simp only;omega⟩) λi p=>?_
 ·exact wB
 obtain⟨i,S2⟩:=i;obtain⟨F,c,b,d,G⟩:=p;simp only at F c b d G |-;by_cases w:i<la.length
 ·have a:=ao w
  have n:=oH (nth la i);cases j:bF (nth la i)<;>rw[j]at n
  ·repeat'(first|refine gE ?_|(conv=>whnf);first|with_reducible refine CF (aa a) ?_|refine C9 n ?_)
   exact Z0 (λz=>[B z]) ((qe a j).symm)
  have M:=aM j
  repeat'(first|refine gE ?_|(conv=>whnf);first|with_reducible refine CF (aa a) ?_|refine C9 n ?_)
  (conv=>whnf)
  refine CH (ι:=Nat × List Int) (λk=>[(1,.H .one (bJ .U la)),(5,.H .one (aD .own k.2)),(7,.H .one [I ((i:Nat):Int)]),(8,.H .one [I ((k.1:Nat):Int)])]) (λk=>k.1<=(nth la i).a1.toNat/\k.2=S2++lpgs (nth la i) k.1/\k.2.Nodup) (λk=>(nth la i).a1.toNat - k.1) ((0,S2)) ?_ (⟨X0 _,by simp[lpgs],d⟩) λk H=>?_
  ·exact wB
  obtain⟨k,q⟩:=k;obtain⟨H,e,g⟩:=H;simp only at H e g |-;have N:q.length=S2.length+k:=by rw[e,Y3,Fy]
  by_cases O:k<(nth la i).a1.toNat
  ·repeat'(first|refine gE ?_|(conv=>whnf);first|with_reducible (first|refine CF (aa a) ?_|refine Bf.D (λy=>?_) (λy=>?_))|refine CL (nq q _ ω) ⟨⟨rfl,d8 _⟩,⟨rfl,rfl⟩,trivial⟩ ?_|refine CU cw (λr E=>by rw[V1.1 E];rfl) (by simp[aZ,dS]) (by simp;omega) (by show _*8<=_;simp;omega) rfl ?_)
   all_goals first
    | exact Z0 (λz=>[B z]) ((lc (S:=q) (by rw[e,c];exact Bq a O) (by assumption)).symm)
    | ((conv=>whnf)
       refine CG (k+1,q++[(nth la i).Q+(k:Nat)]) ⟨(by simp only;omega),(by simp only;rw[e,l8,V6]),lV g (by assumption)⟩ (by simp only;omega) ?_
       (repeat'(first|exact trivial|rfl|exact CN rfl (CN (Z0 (C.s dN.own) (by simp[rI])) trivial)|refine CN ?_ ?_)))
  obtain rfl:k=(nth la i).a1.toNat:=ω
  repeat'(first|refine gE ?_|(conv=>whnf);first|with_reducible refine CF (aa a) ?_)
  ((conv=>whnf);refine CG (i+1,q) ⟨(by simp only;omega),(by simp only;rw[e,c,<-p6 sp a]),(cZ a b j),g,(by simp only;omega)⟩ (by simp only;omega) ?_;(exact wB))
 obtain rfl:i=la.length:=ω
 rw[Y5]at b c
 repeat'(first|refine gE ?_|fail)
 exact Z0 (λz=>[B z]) ((t8 h b (by rw[<-c];exact d)).symm)
def ins(S:List Int)(p:Int):List Int:=if p∈S then S else S++[p]
def Ke{p:Int} : ∀{S:List Int},p∈S->mput (fV S) p (.bool true)=fV S
 | x::S,h=>by
  simp only[fV,Y6,mput];by_cases a:x=p
  ·rw[CD a,a]
  rw[CB a];have:=Ke (S:=S) ((List.mem_cons.1 h).resolve_left λe=>a e.symm);simp only[fV]at this;rw[this]
def yV(S:List Int)(p:Int):fV (ins S p)=mput (fV S) p (.bool true):=by
 unfold ins;split
 ·rw[Ke (by assumption)]
 rw[uT (by assumption)]
def Px(S:List Int)(p:Int):zzB 239 false [.val none [I p],.ptr [.m (fV S)]] [.val none [I p],.ptr [.m (fV (ins S p))]] .one [B (decide (p∉S))]:=by
 refine fM 12 [] [] [(0,0),(0,0)] Tryz.func239 rfl (λu q=>?_)
 repeat'(first|refine gP ?_|(conv=>whnf);first|refine Ml.mk (nH p S) ?_|refine Mu.mk (yV S p) ?_)
 refine CK rfl ?_ ?_
 ·exact Z0 (λz=>[B z]) (by simp)
 exact wB
def mO(sp:List ax)(la:List a7)(t:dK sp)(u:dG la):zzA 73 false [.val none (bT .U sp),.val none (bJ .U la)] .one [B (bp sp la)]:=by
 have F:=t.1;have G:=u.1;refine fP 54 [(239,[0,2])] [] Tryz.func73 rfl ?_
 repeat'(first|refine gP ?_|fail)
 (conv=>whnf)
 refine CH (ι:=Nat × List Int) (λi=>[(1,.H .one (bJ .U la)),(5,.H .box [.m (fV i.2)]),(6,.fn 239 [5]),(14,.H .one (bT .U sp)),(15,.H .one [I (sp.length)]),(16,.H .one [I ((i.1:Nat):Int)])]) (λi=>i.1<=sp.length/\i.2=(sp.take i.1).map (·.Q)/\(sp.take i.1).all bi=true/\i.2.Nodup) (λi=>sp.length - i.1) ((0,[])) ?_ (⟨X0 _,rfl,rfl,List.nodup_nil⟩) λi p=>?_
 ·exact wB
 obtain⟨i,S⟩:=i;obtain⟨p,q,h,n⟩:=p;simp only at p q h n |-;by_cases w:i<sp.length
 ·have c:=ao w
  have o:=iX (nth sp i);cases l:bi (nth sp i)<;>rw[l]at o
  ·repeat'(first|refine gE ?_|(conv=>whnf);first|with_reducible refine CF (aa c) ?_|refine C9 o ?_)
   exact Z0 (λz=>[B z]) ((qJ c l).symm)
  repeat'(first|refine gE ?_|(conv=>whnf);first|with_reducible (first|refine CF (aa c) ?_|refine Bf.D (λy=>?_) (λy=>?_))|refine C9 o ?_|refine CM (Px S _) (.inl rfl) ?_)
  all_goals first
   | exact Z0 (λz=>[B z]) ((lc (S:=S) (by rw[q];exact E2 c) (by grind)).symm)
   |(have a:(nth sp i).Q∉S:=by assumption
     (conv=>whnf)
     refine CG (i+1,ins S (nth sp i).Q) ⟨(by simp only;omega),(by simp only;unfold ins;rw[CB a,q,O6,c];simp),(cZ c h l),(by simp only;unfold ins;rw[CB a];exact lV n a)⟩ (by simp only;omega) ?_
     (exact wA))
 obtain rfl:i=sp.length:=ω
 rw[Y5]at h q
 repeat'(first|refine gE ?_|fail)
 (conv=>whnf)
 refine CH (ι:=Nat × List Int) (λi=>[(5,.H .box [.m (fV i.2)]),(6,.fn 239 [5]),(31,.H .one (bJ .U la)),(32,.H .one [I (la.length)]),(33,.H .one [I ((i.1:Nat):Int)])]) (λi=>i.1<=la.length/\i.2=pgs sp (la.take i.1)/\(la.take i.1).all bF=true/\i.2.Nodup) (λi=>la.length - i.1) ((0,S)) ?_ (⟨X0 _,by rw[q];unfold pgs;simp,rfl,n⟩) λi p=>?_
 ·exact wB
 obtain⟨i,S2⟩:=i;obtain⟨C,d,b,e⟩:=p;simp only at C d b e |-;by_cases w:i<la.length
 ·have c:=ao w
  have o:=t7 (nth la i);cases l:bF (nth la i)<;>rw[l]at o
  ·repeat'(first|refine gE ?_|(conv=>whnf);first|with_reducible refine CF (aa c) ?_|refine C9 o ?_)
   exact Z0 (λz=>[B z]) ((qe c l).symm)
  have H:=aM l
  repeat'(first|refine gE ?_|(conv=>whnf);first|with_reducible refine CF (aa c) ?_|refine C9 o ?_)
  (conv=>whnf)
  refine CH (ι:=Nat × List Int) (λk=>[(5,.H .box [.m (fV k.2)]),(6,.fn 239 [5]),(10,.H .box (a7.enc .U (nth la i))),(11,.H .one [I ((k.1:Nat):Int)]),(31,.H .one (bJ .U la)),(32,.H .one [I (la.length)]),(33,.H .one [I ((i:Nat):Int)])]) (λk=>k.1<=(nth la i).a1.toNat/\k.2=S2++lpgs (nth la i) k.1/\k.2.Nodup) (λk=>(nth la i).a1.toNat - k.1) ((0,S2)) ?_ (⟨X0 _,by simp[lpgs],e⟩) λk E=>?_
  ·exact wB
  obtain⟨k,r⟩:=k;obtain⟨E,j,g⟩:=E;simp only at E j g |-;by_cases J:k<(nth la i).a1.toNat
  ·repeat'(first|refine gE ?_|(conv=>whnf);first|with_reducible refine Bf.D (λy=>?_) (λy=>?_)|refine CM (Px r _) (.inl rfl) ?_)
   all_goals first
    | exact Z0 (λz=>[B z]) ((lc (S:=r) (by rw[j,d];exact Bq c J) (by grind)).symm)
    |(have a:(nth la i).Q+(k:Nat)∉r:=by assumption
      (conv=>whnf)
      refine CG (k+1,ins r ((nth la i).Q+(k:Nat))) ⟨(by simp only;omega),(by simp only;unfold ins;rw[CB a,j,l8,V6]),(by simp only;unfold ins;rw[CB a];exact lV g a)⟩ (by simp only;omega) ?_
      (exact wA))
  obtain rfl:k=(nth la i).a1.toNat:=ω
  repeat'(first|refine gE ?_|fail)
  ((conv=>whnf);refine CG (i+1,r) ⟨(by simp only;omega),(by simp only;rw[j,d,<-p6 sp c]),(cZ c b l),g⟩ (by simp only;omega) ?_;(exact wB))
 obtain rfl:i=la.length:=ω
 rw[Y5]at b d
 repeat'(first|refine gE ?_|fail)
 exact Z0 (λz=>[B z]) ((t8 h b (by rw[<-d];exact e)).symm)
def aC(h:bi s=true):0<=s.Q/\s.Q<=31/\0<=s.a/\s.a<=3:=by
 unfold bi at h;simp only[C0]at h;omega
def b9{k:Int}(h:0<=k/\k<=3):csz k=1\/csz k=2\/csz k=4\/csz k=8:=by
 obtain rfl|rfl|rfl|rfl:k=0\/k=1\/k=2\/k=3:=ω
 all_goals decide
def kn{y:Int}(h:0<=x):x.tdiv y=x / y:=Int.tdiv_eq_ediv_of_nonneg h
def fF{y:Int}(h:0<=x):x.tmod y=x % y:=Int.tmod_eq_emod_of_nonneg h
def S2(p:Int × Int):List C:=[I p.1,I p.2]
def AK{p:Int × Int}(h:(a,b)=p):[I a,I b]=S2 p:=by subst h;rfl
def vM(s:ax)(a:Int)(k:n9 a):zzA 476 false [.val (some 3) (ax.enc .U s),.val none [I a]] (.tup [none,none]) (S2 (jb s a)):=by
 have g:=fW s;have l:=dx s.a;obtain⟨n,o⟩:=k;cases b:bi s<;>rw[b]at g
 ·refine fO 33 [(4,12,[23,24,25,26,27,28,29,30,31,32,4,5])] Tryz.func476 rfl ?_ (.inr ⟨trivial,trivial,trivial⟩)
  repeat'(first|refine gP ?_|(conv=>whnf);first|refine C9 g ?_)
  exact AK (by unfold jb cK;rw[b];rfl)
 have h:=aC b;have i:=b9 ⟨h.2.2.1,h.2.2.2⟩;by_cases c:16*s.Q<=a/\a<=16*s.Q+15
 ·have j:0<=a:=ω
  refine fO 33 [(4,12,[23,24,25,26,27,28,29,30,31,32,4,5])] Tryz.func476 rfl ?_ (.inr ⟨trivial,trivial,trivial⟩)
  repeat'(first|refine gE ?_|(conv=>whnf);first|with_reducible refine Bf.N (λd=>?_) (λd=>?_)|refine C9 g ?_|refine C9 l ?_|refine CQ (by decide) ?_|refine CQ ω ?_|refine CO ((Z0 _ (kn j)).trans (eZ ω ω)) ?_|refine CX (fF j) ?_|refine CO ((Z0 _ (kn ω)).trans (eZ (by rcases i with e|e|e|e<;>rw[e]<;>omega) (by rcases i with e|e|e|e<;>rw[e]<;>omega))) ?_|refine CX (fF ω) ?_)
  all_goals first
   |(exfalso;omega)
   |exact AK (by unfold jb cK;rw[b,O0 c];show _=((a - 16*s.Q) / csz s.a,(a - 16*s.Q) % csz s.a);rw[show a % 16=a - 16*s.Q by omega])
 refine fO 33 [(4,12,[23,24,25,26,27,28,29,30,31,32,4,5])] Tryz.func476 rfl ?_ (.inr ⟨trivial,trivial,trivial⟩)
 repeat'(first|refine gP ?_|(conv=>whnf);first|with_reducible (first|refine Bf.D (λd=>?_) (λd=>?_)|refine Bf.N (λd=>?_) (λd=>?_))|refine C9 g ?_|refine CQ (by decide) ?_|refine CO ((Z0 _ (kn ω)).trans (eZ ω ω)) ?_)
 all_goals first
  |exact AK (by unfold jb cK;rw[b,W0 c];rfl)
  |(exfalso;omega)
def G2(s:ax)(a:Int):zzA 260 false [.val (some 3) (ax.enc .U s),.val none [I a]] (.tup [none,none]) (S2 (jb s a)):=by
 have d:=iX s;have j:=cW s.a;cases b:bi s<;>rw[b]at d
 ·refine fO 38 [(4,12,[28,29,30,31,32,33,34,35,36,37,4,5])] Tryz.func260 rfl ?_ (.inr ⟨trivial,trivial,trivial⟩)
  repeat'(first|refine gP ?_|(conv=>whnf);first|refine C9 d ?_)
  exact AK (by unfold jb cK;rw[b];rfl)
 have h:=aC b;have i:=b9 ⟨h.2.2.1,h.2.2.2⟩;by_cases c:16*s.Q<=a/\a<=16*s.Q+15
 ·refine fO 38 [(4,12,[28,29,30,31,32,33,34,35,36,37,4,5])] Tryz.func260 rfl ?_ (.inr ⟨trivial,trivial,trivial⟩)
  repeat'(first|refine gE ?_|(conv=>whnf);first|with_reducible refine Bf.D (λg=>?_) (λg=>?_)|refine C9 d ?_|refine C9 j ?_|refine C9 (aO _ _ _) ?_|refine CQ ω ?_|refine CO ((Z0 _ (kn ω)).trans (eZ (by rcases i with e|e|e|e<;>rw[e]<;>omega) (by rcases i with e|e|e|e<;>rw[e]<;>omega))) ?_|refine CX (fF ω) ?_)
  all_goals exact AK (by unfold jb cK;rw[b,O0 c];show _=((a - 16*s.Q) / csz s.a,(a - 16*s.Q) % csz s.a);rw[show a - s.Q*16=a - 16*s.Q by omega])
 refine fO 38 [(4,12,[28,29,30,31,32,33,34,35,36,37,4,5])] Tryz.func260 rfl ?_ (.inr ⟨trivial,trivial,trivial⟩)
 repeat'(first|refine gE ?_|(conv=>whnf);first|with_reducible refine Bf.D (λg=>?_) (λg=>?_)|refine C9 d ?_|refine C9 (aO _ _ _) ?_)
 all_goals exact AK (by unfold jb cK;rw[b,W0 c];rfl)
def qx(b i:Int):zzA 539 false [.val none [I b],.val none [I i]] .one [B (decide (0<=b/\0<=i/\i<=15))]:=by
 refine fO 11 [] Tryz.func539 rfl ?_
 repeat'(first|refine gP ?_|(conv=>whnf);first|with_reducible refine Bf.D (λa=>?_) (λa=>?_)|refine C9 (aI _ 0 15) ?_)
 all_goals exact Z0 (λz=>[B z]) ((by first|(symm;exact W0 ω)|exact decide_eq_decide.2 ω))
def BC(b i:Int):zzA 396 false [.val none [I b],.val none [I i]] .one [B (decide (0<=b/\0<=i/\i<=15))]:=by
 refine fO 11 [] Tryz.func396 rfl ?_
 repeat'(first|refine gP ?_|(conv=>whnf);first|with_reducible refine Bf.D (λa=>?_) (λa=>?_)|refine C9 (aO _ 0 15) ?_)
 all_goals exact Z0 (λz=>[B z]) ((by first|(symm;exact W0 ω)|exact decide_eq_decide.2 ω))
def N1{i:Int}(a:0<=b/\b<=9223372036854775807)(e:0<=i/\i<=15):b.fdiv (2 ^ min i.toNat IntKind.i64.bits)=b / 2 ^ i.toNat/\0<=b / 2 ^ i.toNat/\b / 2 ^ i.toNat<=9223372036854775807:=by
 have d:min i.toNat IntKind.i64.bits=i.toNat:=Nat.min_eq_left (show i.toNat<=64 by omega);rw[d];have c:(0:Int)<=2 ^ i.toNat:=Int.pow_nonneg (by decide);refine⟨Int.fdiv_eq_ediv_of_nonneg _ c,Int.ediv_nonneg a.1 c,?_⟩;have:=Int.ediv_le_self (2 ^ i.toNat:Int) a.1;omega
def y9{i:Int}(a:0<=b)(e:0<=i/\i<=15):((((b / 2 ^ i.toNat).toNat &&& (1:Int).toNat:Nat):Int) == 1)=aS b i:=by
 have c:(0:Int)<=b / 2 ^ i.toNat:=Int.ediv_nonneg a (Int.pow_nonneg (by decide));have d:(b / 2 ^ i.toNat).toNat &&& (1:Int).toNat=(b / 2 ^ i.toNat).toNat % 2:=Nat.and_one_is_mod _;rw[d];unfold aS;generalize b / 2 ^ i.toNat=q at c |-;rw[I5,beq_iff_eq,C0];omega
def hB(b i:Int)(c:b<=9223372036854775807):zzA 477 false [.val none [I b],.val none [I i]] .one [B (aS b i)]:=by
 by_cases h:0<=b/\0<=i/\i<=15
 ·obtain⟨d,g⟩:=N1 (b:=b) (i:=i) ⟨h.1,c⟩ h.2
  have j:IntKind.u64.wrap i=i:=by unfold IntKind.wrap;simp[IntKind.signed,IntKind.bits];omega
  refine fO 16 [] Tryz.func477 rfl ?_
  repeat'(first|refine gE ?_|(conv=>whnf);first|with_reducible refine Bf.D (λa=>?_) (λa=>?_)|refine C9 (qx _ _) ?_|refine CQ ω ?_|refine CO j ?_|refine CX d ?_|refine CO (and64 g ⟨by decide,by decide⟩) ?_)
  all_goals exact Z0 (λz=>[B z]) ((y9 h.1 h.2))
 refine fO 16 [] Tryz.func477 rfl ?_
 repeat'(first|refine gE ?_|(conv=>whnf);first|with_reducible refine Bf.D (λa=>?_) (λa=>?_)|refine C9 (qx _ _) ?_)
 all_goals exact Z0 (λz=>[B z]) ((by unfold aS;symm;exact W0 λe=>h ⟨e.1,e.2.1,e.2.2.1⟩))
def nN(b i:Int)(c:b<=9223372036854775807):zzA 261 false [.val none [I b],.val none [I i]] .one [B (aS b i)]:=by
 by_cases h:0<=b/\0<=i/\i<=15
 ·obtain⟨d,g⟩:=N1 (b:=b) (i:=i) ⟨h.1,c⟩ h.2
  refine fO 15 [] Tryz.func261 rfl ?_
  repeat'(first|refine gE ?_|(conv=>whnf);first|with_reducible refine Bf.D (λa=>?_) (λa=>?_)|refine C9 (BC _ _) ?_|refine CQ ω ?_|refine CX d ?_|refine CO (and64 g ⟨by decide,by decide⟩) ?_)
  all_goals exact Z0 (λz=>[B z]) ((y9 h.1 h.2))
 refine fO 15 [] Tryz.func261 rfl ?_
 repeat'(first|refine gE ?_|(conv=>whnf);first|with_reducible refine Bf.D (λa=>?_) (λa=>?_)|refine C9 (BC _ _) ?_)
 all_goals exact Z0 (λz=>[B z]) ((by unfold aS;symm;exact W0 λe=>h ⟨e.1,e.2.1,e.2.2.1⟩))
def bV{l:a7}(h:bF l=true):9<=l.o/\l.o<=1000/\0<=l.Q/\l.Q<=31:=by
 unfold bF at h;simp only[C0]at h;omega
def qM(l:a7)(a:Int):zzA 478 false [.val (some 3) (a7.enc .U l),.val none [I a]] .one [B (bf l a)]:=by
 have c:=oH l;cases b:bF l<;>rw[b]at c
 ·refine fO 24 [] Tryz.func478 rfl ?_
  repeat'(first|refine gP ?_|(conv=>whnf);first|refine C9 c ?_)
  exact Z0 (λz=>[B z]) ((by unfold bf;rw[b];rfl))
 have e:=bV b;refine fO 24 [] Tryz.func478 rfl ?_
 repeat'(first|refine gP ?_|(conv=>whnf);first|with_reducible refine Bf.D (λd=>?_) (λd=>?_)|refine C9 c ?_)
 all_goals exact Z0 (λz=>[B z]) ((by unfold bf;rw[b,Bool.true_and];first|(symm;exact W0 ω)|exact decide_eq_decide.2 ω))
def mK(l:a7)(a:Int):zzA 259 false [.val (some 3) (a7.enc .U l),.val none [I a]] .one [B (bf l a)]:=by
 have c:=t7 l;cases b:bF l<;>rw[b]at c
 ·refine fO 21 [] Tryz.func259 rfl ?_
  repeat'(first|refine gP ?_|(conv=>whnf);first|refine C9 c ?_)
  exact Z0 (λz=>[B z]) ((by unfold bf;rw[b];rfl))
 have e:=bV b;refine fO 21 [] Tryz.func259 rfl ?_
 repeat'(first|refine gP ?_|(conv=>whnf);first|with_reducible refine Bf.D (λd=>?_) (λd=>?_)|refine C9 c ?_|refine C9 (aO _ _ _) ?_)
 all_goals exact Z0 (λz=>[B z]) ((by unfold bf;rw[b,Bool.true_and];exact decide_eq_decide.2 ω))
def uR(l:a7)(a:Int)(h:bf l a=true):zzA 479 false [.val (some 3) (a7.enc .U l),.val none [I a]] .one [I (a - 16*l.Q)]:=by
 have b:=qM l a;rw[h]at b;unfold bf at h;simp only[I0,C0]at h;have c:=bV h.1;refine fO 14 [] Tryz.func479 rfl ?_
 repeat'(first|refine gP ?_|(conv=>whnf);first|refine C9 b ?_)
 exact Z0 (λz=>[I z]) ω
def uh(l:a7)(a:Int)(h:bf l a=true):zzA 262 false [.val (some 3) (a7.enc .U l),.val none [I a]] .one [I (a - 16*l.Q)]:=by
 have b:=mK l a;rw[h]at b;unfold bf at h;simp only[I0,C0]at h;have c:=bV h.1;refine fO 14 [] Tryz.func262 rfl ?_
 repeat'(first|refine gP ?_|(conv=>whnf);first|refine C9 b ?_)
 exact Z0 (λz=>[I z]) ω
def qh{m:aL}(a:i<m.V.length)(h:gY m i=false):bP m=false:=by
 unfold bP;rw[bX a h];simp
def xb{m:aL}(h:¬(1<=m.V.length/\m.V.length<=4/\m.y.length=m.V.length)):bP m=false:=by
 unfold bP;rw[W0 h];rfl
def xL{m:aL}(h1:1<=m.V.length/\m.V.length<=4/\m.y.length=m.V.length)(a:cE m.V.length (gY m)=true):bP m=decide (bx m m.V.length<=30):=by
 unfold bP;rw[O0 h1,a];rfl
def mn(m:aL)(h:aL.sml m):zzA 145 false [.val (some 2) (aL.enc .U m)] .one [B (bP m)]:=by
 have u:m.V.length<=1048576:=h.1.1;have w:m.y.length<=1048576:=h.2.1;by_cases n:1<=m.V.length/\m.V.length<=4/\m.y.length=m.V.length
 ·refine fO 92 [(19,15,[75,76,77,78,79,80,81,82,83,84,85,86,87,88,89])] Tryz.func145 rfl ?_
  repeat'(first|refine gB ?_|(conv=>whnf);first|with_reducible (first|refine Bf.D (λa=>?_) (λa=>?_)|refine Bf.N (λa=>?_) (λa=>?_))|refine C9 (aI _ 1 4) ?_)
  (conv=>whnf)
  refine CH (ι:=Nat) (λi=>[(1,.H .box (aL.enc .U m)),(3,.H .one [I (m.V.length)]),(4,.H .one [I (bx m i)]),(5,.H .one [I ((i:Nat):Int)])]) (λi=>i<=m.V.length/\cE i (gY m)=true/\0<=bx m i/\bx m i<=2097152*i) (λi=>m.V.length - i) (0) ?_ (⟨X0 _,rfl,by simp[bx],by simp[bx]⟩) λi o=>?_
  ·exact wB
  obtain⟨o,p,G,H⟩:=o;by_cases j:i<m.V.length
  ·have l:=ao j
   have q:=ao (xs:=m.y) (i:=i) ω;have y:(nth m.V i).length<=1048576:=(h.1.2 _ (am j)).1;have C:(nth m.y i).length<=1048576:=h.2.2 _ (am ω)
   repeat'(first|refine gE ?_|fail)
   (conv=>whnf)
   refine CH (ι:=Nat) (λk=>[(1,.H .box (aL.enc .U m)),(3,.H .one [I (m.V.length)]),(4,.H .one [I (bx m i)]),(5,.H .one [I ((i:Nat):Int)]),(6,.H .one [I ((k:Nat):Int)])]) (λk=>k<=(nth m.V i).length/\((nth m.V i).take k).all (nE m.V.length)=true) (λk=>(nth m.V i).length - k) (0) ?_ (⟨X0 _,rfl⟩) λk r=>?_
   ·exact wB
   obtain⟨r,t⟩:=r;by_cases E:k<(nth m.V i).length
   ·have c:=ao E
    repeat'(first|refine gE ?_|(conv=>whnf);first|with_reducible (first|refine CF (aa l) ?_|refine CF (aa c) ?_|refine Bf.D (λa=>?_) (λa=>?_))|refine C9 (aI _ 0 _) ?_)
    all_goals first
     | exact Z0 (λz=>[B z]) ((qh j (by unfold gY;rw[fe c (by unfold nE;exact W0 ω)];rfl)).symm)
     | ((conv=>whnf);refine CG (k+1) ⟨ω,cZ c t (by unfold nE;exact O0 ω)⟩ ω ?_;(exact wB))
   have F:=gV ω t
   repeat'(first|refine gE ?_|(conv=>whnf);first|with_reducible refine CF (aa l) ?_)
   (conv=>whnf)
   refine CH (ι:=Nat) (λb=>[(1,.H .box (aL.enc .U m)),(3,.H .one [I (m.V.length)]),(4,.H .one [I (bx m i)]),(5,.H .one [I ((i:Nat):Int)]),(8,.H .one [I ((b:Nat):Int)])]) (λb=>b<=(nth m.y i).length/\((nth m.y i).take b).all Rt=true) (λb=>(nth m.y i).length - b) (0) ?_ (⟨X0 _,rfl⟩) λb e=>?_
   ·exact wB
   obtain⟨e,ak2⟩:=e;by_cases lk2:b<(nth m.y i).length
   ·have c:=ao lk2
    repeat'(first|refine gE ?_|(conv=>whnf);first|with_reducible (first|refine CF (aa q) ?_|refine CF (aa c) ?_|refine Bf.D (λa=>?_) (λa=>?_)))
    all_goals first
     | exact Z0 (λz=>[B z]) ((qh j (by unfold gY;rw[fe c (by unfold Rt;exact W0 ω)];simp)).symm)
     | ((conv=>whnf);refine CG (b+1) ⟨ω,cZ c ak2 (by unfold Rt;exact O0 ω)⟩ ω ?_;(exact wB))
   have ae2:=gV ω ak2;have g:bx m (i+1)=bx m i+((nth m.V i).length+(nth m.y i).length):=rfl;have d:bx m (i+1)=bx m i+(nth m.V i).length+(nth m.y i).length:=by rw[g];omega
   repeat'(first|refine gE ?_|(conv=>whnf);first|with_reducible (first|refine CF (aa l) ?_|refine CF (aa q) ?_))
   ((conv=>whnf);refine CG (i+1) ⟨ω,br p (by unfold gY;rw[F,ae2];rfl),ω,ω⟩ ω ?_)
   rw[d];exact wB
  obtain rfl:i=m.V.length:=ω
  repeat'(first|refine gE ?_|fail)
  exact Z0 (λz=>[B z]) ((xL n p).symm)
 refine fO 92 [(19,15,[75,76,77,78,79,80,81,82,83,84,85,86,87,88,89])] Tryz.func145 rfl ?_
 repeat'(first|refine gP ?_|(conv=>whnf);first|with_reducible (first|refine Bf.D (λa=>?_) (λa=>?_)|refine Bf.N (λa=>?_) (λa=>?_))|refine C9 (aI _ 1 4) ?_)
 all_goals first
  | exact Z0 (λz=>[B z]) ((xb n).symm)
  |(exfalso;omega)
def vN(m:aL)(g:aL.sml m):zzA 75 false [.val (some 2) (aL.enc .U m)] .one [B (bP m)]:=by
 have t:m.V.length<=1048576:=g.1.1;have u:m.y.length<=1048576:=g.2.1;by_cases n:1<=m.V.length/\m.V.length<=4/\m.y.length=m.V.length
 ·refine fO 82 [(20,15,[64,65,66,67,68,69,70,71,72,73,74,75,76,77,78])] Tryz.func75 rfl ?_
  repeat'(first|refine gB ?_|(conv=>whnf);first|with_reducible (first|refine Bf.D (λa=>?_) (λa=>?_)|refine Bf.N (λa=>?_) (λa=>?_))|refine C9 (aO _ 1 4) ?_)
  (conv=>whnf)
  refine CH (ι:=Nat) (λi=>[(1,.H .box (aL.enc .U m)),(3,.H .one [I (m.V.length)]),(4,.H .one [I (bx m i)]),(25,.H .one [I (m.V.length)]),(26,.H .one [I ((i:Nat):Int)])]) (λi=>i<=m.V.length/\cE i (gY m)=true/\0<=bx m i/\bx m i<=2097152*i) (λi=>m.V.length - i) (0) ?_ (⟨X0 _,rfl,by simp[bx],by simp[bx]⟩) λi o=>?_
  ·exact wB
  obtain⟨o,p,F,G⟩:=o;by_cases h:i<m.V.length
  ·have j:=ao h
   have l:=ao (xs:=m.y) (i:=i) ω;have w:(nth m.V i).length<=1048576:=(g.1.2 _ (am h)).1;have y:(nth m.y i).length<=1048576:=g.2.2 _ (am ω)
   repeat'(first|refine gE ?_|(conv=>whnf);first|with_reducible refine CF (aa j) ?_)
   (conv=>whnf)
   refine CH (ι:=Nat) (λk=>[(1,.H .box (aL.enc .U m)),(3,.H .one [I (m.V.length)]),(4,.H .one [I (bx m i)]),(5,.H .one [I ((i:Nat):Int)]),(25,.H .one [I (m.V.length)]),(26,.H .one [I ((i:Nat):Int)]),(33,.H .one (cF .U (nth m.V i))),(34,.H .one [I ((nth m.V i).length)]),(35,.H .one [I ((k:Nat):Int)])]) (λk=>k<=(nth m.V i).length/\((nth m.V i).take k).all (nE m.V.length)=true) (λk=>(nth m.V i).length - k) (0) ?_ (⟨X0 _,rfl⟩) λk q=>?_
   ·exact wB
   obtain⟨q,r⟩:=q;by_cases C:k<(nth m.V i).length
   ·have c:=ao C
    repeat'(first|refine gE ?_|(conv=>whnf);first|with_reducible (first|refine CF (aa j) ?_|refine CF (aa c) ?_|refine Bf.D (λa=>?_) (λa=>?_))|refine C9 (aO _ 0 _) ?_)
    all_goals first
     | exact Z0 (λz=>[B z]) ((qh h (by unfold gY;rw[fe c (by unfold nE;exact W0 ω)];rfl)).symm)
     | ((conv=>whnf);refine CG (k+1) ⟨ω,cZ c r (by unfold nE;exact O0 ω)⟩ ω ?_;(exact wB))
   have E:=gV ω r
   repeat'(first|refine gE ?_|(conv=>whnf);first|with_reducible (first|refine CF (aa j) ?_|refine CF (aa l) ?_))
   (conv=>whnf)
   refine CH (ι:=Nat) (λb=>[(1,.H .box (aL.enc .U m)),(3,.H .one [I (m.V.length)]),(4,.H .one [I (bx m i)]),(5,.H .one [I ((i:Nat):Int)]),(25,.H .one [I (m.V.length)]),(26,.H .one [I ((i:Nat):Int)]),(55,.H .one (aD .U (nth m.y i))),(56,.H .one [I ((nth m.y i).length)]),(57,.H .one [I ((b:Nat):Int)])]) (λb=>b<=(nth m.y i).length/\((nth m.y i).take b).all Rt=true) (λb=>(nth m.y i).length - b) (0) ?_ (⟨X0 _,rfl⟩) λb d=>?_
   ·exact wB
   obtain⟨d,ak2⟩:=d;by_cases lk2:b<(nth m.y i).length
   ·have c:=ao lk2
    repeat'(first|refine gE ?_|(conv=>whnf);first|with_reducible (first|refine CF (aa l) ?_|refine CF (aa c) ?_|refine Bf.D (λa=>?_) (λa=>?_)))
    all_goals first
     | exact Z0 (λz=>[B z]) ((qh h (by unfold gY;rw[fe c (by unfold Rt;exact W0 ω)];simp)).symm)
     | ((conv=>whnf);refine CG (b+1) ⟨ω,cZ c ak2 (by unfold Rt;exact O0 ω)⟩ ω ?_;(exact wB))
   have ae2:=gV ω ak2;have e:bx m (i+1)=bx m i+((nth m.V i).length+(nth m.y i).length):=rfl
   repeat'(first|refine gE ?_|(conv=>whnf);first|with_reducible (first|refine CF (aa j) ?_|refine CF (aa l) ?_))
   ((conv=>whnf);refine CG (i+1) ⟨ω,br p (by unfold gY;rw[E,ae2];rfl),ω,ω⟩ ω ?_)
   rw[e];exact wB
  obtain rfl:i=m.V.length:=ω
  repeat'(first|refine gE ?_|fail)
  exact Z0 (λz=>[B z]) ((xL n p).symm)
 refine fO 82 [(20,15,[64,65,66,67,68,69,70,71,72,73,74,75,76,77,78])] Tryz.func75 rfl ?_
 repeat'(first|refine gP ?_|(conv=>whnf);first|with_reducible (first|refine Bf.D (λa=>?_) (λa=>?_)|refine Bf.N (λa=>?_) (λa=>?_))|refine C9 (aO _ 1 4) ?_)
 all_goals first
  | exact Z0 (λz=>[B z]) ((xb n).symm)
  |(exfalso;omega)
def Ay(h:cK s a=false):S2 (jb s a)=[I (-1),I (-1)]:=by
 unfold jb;rw[h];rfl
def yW(h:cK s a=true):S2 (jb s a)=[I ((a - 16*s.Q) / csz s.a),I ((a - 16*s.Q) % csz s.a)]:=by
 unfold jb;rw[h];rfl
def sj(h:cK s a=true):bi s=true/\0<=(a - 16*s.Q) / csz s.a/\(a - 16*s.Q) / csz s.a<=15:=by
 unfold cK at h;simp only[I0,C0]at h;have b:=aC h.1;refine⟨h.1,?_⟩;rcases b9 ⟨b.2.2.1,b.2.2.2⟩ with e|e|e|e<;>rw[e]<;>omega
def oh(b:i<sp.length)(h:cK (nth sp i) a=true)(c:∀(j:Nat)(z:ax),j<i->sp[j]? = some z->cK z a=false):denotes sp la a=oW i (nth sp i) a:=by
 unfold denotes;rw[wF (pr:=(cK · a)) (ao b) h c]
def mH(b:sp.length<=n)(c:∀(j:Nat)(z:ax),j<n->sp[j]? = some z->cK z a=false)(d:i<la.length)(h:bf (nth la i) a=true)(e:∀(j:Nat)(z:a7),j<i->la[j]? = some z->bf z a=false) :
  denotes sp la a = ⟨3,i,0,a - 16*(nth la i).Q⟩:=by
 unfold denotes;rw[yp (pr:=(cK · a)) b c,wF (pr:=(bf · a)) (ao d) h e]
def ye{k:Nat}(b:sp.length<=n)(c:∀(j:Nat)(z:ax),j<n->sp[j]? = some z->cK z a=false)(d:la.length<=k)(e:∀(j:Nat)(z:a7),j<k->la[j]? = some z->bf z a=false):denotes sp la a = ⟨0,0,0,0⟩:=by
 unfold denotes;rw[yp (pr:=(cK · a)) b c,yp (pr:=(bf · a)) d e]
def nQ(sp:List ax)(la:List a7)(a:Int)(e:dK sp)(g:dG la)(h:bp sp la=true)(C:n9 a):zzA 376 false [.val none (bT .U sp),.val none (bJ .U la),.val none [I a]] .agg (jK.enc .own (denotes sp la a)):=by
 have E:=e.1;have F:=g.1;have q:=mE sp la e g;rw[h]at q;refine fO 67 [] Tryz.func376 rfl ?_ (.inr (jK.enc_fr _))
 repeat'(first|refine gP ?_|(conv=>whnf);first|refine C9 q ?_)
 (conv=>whnf)
 refine CH (ι:=Nat) (λi=>[(0,.H .one (bT .U sp)),(1,.H .one (bJ .U la)),(2,.H .one [I (a)]),(6,.H .box ([I 0,I 0,I 0,I 0])),(7,.H .one [I ((i:Nat):Int)])]) (λi=>i<=sp.length/\∀(j:Nat)(z:ax),j<i->sp[j]? = some z->cK z a=false) (λi=>sp.length - i) (0) ?_ (⟨X0 _,λj z G=>ω⟩) λi r=>?_
 ·exact wB
 obtain⟨r,l⟩:=r;by_cases t:i<sp.length
 ·have d:=ao t
  have c:=vM (nth sp i) a C;cases b:cK (nth sp i) a with
  | false=>
   rw[Ay b]at c
   repeat'(first|refine gE ?_|(conv=>whnf);first|with_reducible (first|refine CF (aa d) ?_|refine Bf.D (λo=>?_) (λo=>?_))|refine C9 c ?_)
   ((conv=>whnf);refine CG (i+1) ⟨ω,dt (pr:=(cK · a)) d b l⟩ ω ?_;(exact wB))
  | true=>
   rw[yW b]at c;obtain⟨H,J,K⟩:=sj b;have u:=hB (nth sp i).b1 ((a - 16*(nth sp i).Q) / csz (nth sp i).a) (eP H).2;cases w:aS (nth sp i).b1 ((a - 16*(nth sp i).Q) / csz (nth sp i).a)<;>rw[w]at u
   all_goals
    repeat'(first|refine gE ?_|(conv=>whnf);first|with_reducible (first|refine CF (aa d) ?_|refine Bf.D (λo=>?_) (λo=>?_))|refine C9 c ?_|refine C9 u ?_)
    all_goals(rw[oh t b l];unfold oW;rw[w];rfl)
 repeat'(first|refine gE ?_|fail)
 (conv=>whnf)
 refine CH (ι:=Nat) (λk=>[(1,.H .one (bJ .U la)),(2,.H .one [I (a)]),(6,.H .box ([I 0,I 0,I 0,I 0])),(11,.H .one [I ((k:Nat):Int)])]) (λk=>k<=la.length/\∀(j:Nat)(z:a7),j<k->la[j]? = some z->bf z a=false) (λk=>la.length - k) (0) ?_ (⟨X0 _,λj z G=>ω⟩) λk y=>?_
 ·exact wB
 obtain⟨y,p⟩:=y;by_cases B:k<la.length
 ·have d:=ao B
  have c:=qM (nth la k) a;cases b:bf (nth la k) a<;>rw[b]at c
  ·repeat'(first|refine gE ?_|(conv=>whnf);first|with_reducible refine CF (aa d) ?_|refine C9 c ?_)
   ((conv=>whnf);refine CG (k+1) ⟨ω,dt (pr:=(bf · a)) d b p⟩ ω ?_;(exact wB))
  repeat'(first|refine gE ?_|(conv=>whnf);first|with_reducible refine CF (aa d) ?_|refine C9 c ?_|refine C9 (uR (nth la k) a b) ?_)
  rw[mH (n:=i) ω l B b p];rfl
 repeat'(first|refine gE ?_|fail)
 rw[ye (n:=i) (k:=k) ω l ω p];rfl
def nJ(sp:List ax)(la:List a7)(a:Int)(g:dK sp)(h:dG la):zzA 97 false [.val none (bT .U sp),.val none (bJ .U la),.val none [I a]] .agg (jK.enc .own (denotes sp la a)):=by
 have y:=g.1;have B:=h.1;refine fO 56 [] Tryz.func97 rfl ?_ (.inr (jK.enc_fr _))
 repeat'(first|refine gP ?_|fail)
 (conv=>whnf)
 refine CH (ι:=Nat) (λi=>[(1,.H .one (bJ .U la)),(2,.H .one [I (a)]),(6,.H .box ([I 0,I 0,I 0,I 0])),(14,.H .one (bT .U sp)),(15,.H .one [I (sp.length)]),(16,.H .one [I ((i:Nat):Int)])]) (λi=>i<=sp.length/\∀(j:Nat)(z:ax),j<i->sp[j]? = some z->cK z a=false) (λi=>sp.length - i) (0) ?_ (⟨X0 _,λj z C=>ω⟩) λi p=>?_
 ·exact wB
 obtain⟨p,e⟩:=p;by_cases q:i<sp.length
 ·have d:=ao q
  have c:=G2 (nth sp i) a;cases b:cK (nth sp i) a with
  | false=>
   rw[Ay b]at c
   repeat'(first|refine gE ?_|(conv=>whnf);first|with_reducible (first|refine CF (aa d) ?_|refine Bf.D (λl=>?_) (λl=>?_))|refine C9 c ?_)
   ((conv=>whnf);refine CG (i+1) ⟨ω,dt (pr:=(cK · a)) d b e⟩ ω ?_;(exact wB))
  | true=>
   rw[yW b]at c;obtain⟨E,F,G⟩:=sj b;have r:=nN (nth sp i).b1 ((a - 16*(nth sp i).Q) / csz (nth sp i).a) (eP E).2;cases t:aS (nth sp i).b1 ((a - 16*(nth sp i).Q) / csz (nth sp i).a)<;>rw[t]at r
   all_goals
    repeat'(first|refine gE ?_|(conv=>whnf);first|with_reducible (first|refine CF (aa d) ?_|refine Bf.D (λl=>?_) (λl=>?_))|refine C9 c ?_|refine C9 r ?_)
    all_goals(rw[oh q b e];unfold oW;rw[t];rfl)
 repeat'(first|refine gE ?_|fail)
 (conv=>whnf)
 refine CH (ι:=Nat) (λk=>[(2,.H .one [I (a)]),(6,.H .box ([I 0,I 0,I 0,I 0])),(39,.H .one (bJ .U la)),(40,.H .one [I (la.length)]),(41,.H .one [I ((k:Nat):Int)])]) (λk=>k<=la.length/\∀(j:Nat)(z:a7),j<k->la[j]? = some z->bf z a=false) (λk=>la.length - k) (0) ?_ (⟨X0 _,λj z C=>ω⟩) λk u=>?_
 ·exact wB
 obtain⟨u,o⟩:=u;by_cases w:k<la.length
 ·have d:=ao w
  have c:=mK (nth la k) a;cases b:bf (nth la k) a<;>rw[b]at c
  ·repeat'(first|refine gE ?_|(conv=>whnf);first|with_reducible refine CF (aa d) ?_|refine C9 c ?_)
   ((conv=>whnf);refine CG (k+1) ⟨ω,dt (pr:=(bf · a)) d b o⟩ ω ?_;(exact wB))
  repeat'(first|refine gE ?_|(conv=>whnf);first|with_reducible refine CF (aa d) ?_|refine C9 c ?_|refine C9 (uh (nth la k) a b) ?_)
  rw[mH (n:=i) ω e w b o];rfl
 repeat'(first|refine gE ?_|fail)
 rw[ye (n:=i) (k:=k) ω e ω o];rfl
section
variable{α:Type}
def rM(ag:Option Nat)(e:α->List C)(pr:α->Bool)(xs:List α):List (Option Nat × List C)->Kd->List C->Prop:=λL k rcs=>∃x,x∈xs/\L=[(ag,e x)]/\k=.one/\rcs=[B (pr x)]
end
def wu(xs:List aB)(pr:aB->Bool)(n:xs.length<=9223372036854775807):zzA 490 false [.val none (bB .U xs),.fn (mN Tryz.prog (rM (some 2) (aB.enc .U) pr xs))] .one [I (cu pr xs)]:=by
 refine fO 19 [] Tryz.func490 rfl ?_
 repeat'(first|refine gP ?_|fail)
 (conv=>whnf)
 refine CH (ι:=Nat) (λi=>[(0,.H .one (bB .U xs)),(1,.fv (mN Tryz.prog (rM (some 2) (aB.enc .U) pr xs))),(7,.H .one [I xs.length]),(8,.H .one [I (i:Nat)])]) (λi=>i<=xs.length/\∀(j:Nat)(z:aB),j<i->xs[j]? = some z->pr z=false) (λi=>xs.length - i) 0 ?_ ⟨X0 _,λj z h=>ω⟩ λi e=>?_
 ·exact wB
 obtain⟨e,b⟩:=e;by_cases c:i<xs.length
 ·obtain⟨y,a⟩ : ∃y,xs[i]? = some y:=⟨_,W2 c⟩
  repeat'(first|refine gE ?_|(conv=>whnf);first|with_reducible refine CF (aa a) ?_|refine Fv.mk (k:=.one) (rcs:=[B (pr y)]) ⟨y,I2 a,rfl,rfl,rfl⟩ ?_|refine Bf.P (λl=>?_) (λl=>?_))
  ·exact Z0 (λz=>[I z]) (dB a ‹_› b).symm
  (conv=>whnf)
  refine CG (i+1) ⟨ω,λj z h d=>?_⟩ ω ?_
  ·rcases Nat.lt_or_ge j i with g|g
   ·exact b j z g d
   obtain rfl:j=i:=ω
   rw[a]at d;cases d;assumption
  exact wB
 repeat'(first|refine gE ?_|fail)
 exact Z0 (λz=>[I z]) (fy ω b).symm
def r7(xs:List aB)(pr:aB->Bool)(a:xs.length<=9223372036854775807):zzA 390 false [.val none (bB .U xs),.fn (mN Tryz.prog (rM (some 2) (aB.enc .U) pr xs))] .one [B (xs.any pr)]:=by
 refine fO 9 [] Tryz.func390 rfl ?_
 repeat'(first|refine gP ?_|(conv=>whnf);first|refine C9 (wu xs pr a) ?_)
 exact Z0 (λz=>[B z]) (gT pr xs)
def vq(r:aB)(page:Int):zzA 391 false [.val (some 2) (aB.enc .U r),.ptr [I page]] .one [B (rn page r)]:=by
 refine fO 17 [] Tryz.func391 rfl ?_
 repeat'(first|refine gP ?_|(conv=>whnf);first|with_reducible refine Bf.D (λa=>?_) (λa=>?_)|refine CO rfl ?_)
 all_goals exact Z0 (λz=>[B z]) (by unfold rn;first|(rw[O0 (by assumption:r.At<=page)];simp;done)|(rw[W0 (by assumption:¬r.At<=page)];rfl))
def Ae(xs:List aB)(page:Int)(a:xs.length<=9223372036854775807):zzA 243 false [.val none (bB .U xs),.val none [I page]] .one [B (xs.any (rn page))]:=by
 refine fO 8 [] Tryz.func243 rfl ?_
 repeat'(first|refine gP ?_|(conv=>whnf);first|refine Cq.mk (rM (some 2) (aB.enc .U) (rn page) xs) (vq default page).has (λL k rcs b=>?_) ?_|refine C9 (r7 xs (rn page) a) ?_)
 ·obtain⟨x,-,rfl,rfl,rfl⟩:=b
  exact vq x page
 rfl
end Go.Proofs.YtecefhjnejfheaaGreat.Ab
