/- The data of the program, its cells, its bulk and its marks. Printed by gen_data.py. No condition. -/
import Derived.Test.YtembpgjjnioagaaGreatMc
set_option linter.unusedVariables false
set_option linter.unusedSimpArgs false
set_option linter.constructorNameAsVariable false
namespace Go.Proofs.YtembpgjjnioagaaGreat.Ab
open Go.RowKit
def aF (o:d3) (x:List Int):List C:=[.s o (x.map (rI o))]
theorem dZ (x:List Int):d9 (aF .own x)=aF .imm x:=by simp[d9,aF,rI,d9]
theorem bK (x:List Int):gG (aF .own x):=⟨⟨.inl fun h=>(by cases h),aZ _ _ fun y _=>oN y⟩,trivial⟩
def i9 (x:List Int):Prop:=x.length<=9223372036854775807/\∀ y∈x,l7 y
def qT (x:List Int):Prop:=x.length<=1048576
def ix (o:d3) (x:List (List Int)):List C:=[.s o (x.map (aF o))]
theorem MZ (x:List (List Int)):d9 (ix .own x)=ix .imm x:=by simp[d9,ix,dZ,<-bW,Function.comp_def]
def yH (x:List (List Int)):Prop:=x.length<=9223372036854775807/\∀ y∈x,i9 y
def lr (x:List (List Int)):Prop:=x.length<=1048576/\∀ y∈x,qT y
def w6 (o:d3) (x:List Bool):List C:=[.s o (x.map (rB o))]
def Lj (x:List Bool):Prop:=x.length<=9223372036854775807/\∀ y∈x,NW y
def Bz (x:List Bool):Prop:=x.length<=1048576
structure aQ where
 Cells:List (List Int)
 Used:List Bool
deriving DecidableEq,Inhabited
def aQ.enc (o:d3) (x:aQ):List C:=[.s o (x.Cells.map (aF o)),.s o (x.Used.map (rB o))]
theorem aQ.enc_fz (x:aQ):d9 (aQ.enc .own x)=aQ.enc .imm x:=by simp[d9,aQ.enc,rB,dZ,<-bW,Function.comp_def]
theorem aQ.enc_fr (x:aQ):gG (aQ.enc .own x):=⟨⟨.inl fun h=>(by cases h),aZ _ _ fun y _=>bK y⟩,⟨.inl fun h=>(by cases h),aZ _ _ fun y _=>AB y⟩,trivial⟩
def aQ.wf (x:aQ):Prop:=yH x.Cells/\Lj x.Used
def aQ.sml (x:aQ):Prop:=lr x.Cells/\Bz x.Used
structure bj where
 Mode:Int
 Frame:Int
deriving DecidableEq,Inhabited
def bj.enc (o:d3) (x:bj):List C:=[I x.Mode,I x.Frame]
theorem bj.enc_fz (x:bj):d9 (bj.enc .own x)=bj.enc .imm x:=by simp[d9,bj.enc]
theorem bj.enc_fr (x:bj):gG (bj.enc .own x):=⟨trivial,trivial,trivial⟩
def bj.wf (x:bj):Prop:=l7 x.Mode/\l7 x.Frame
def bj.sml (_:bj):Prop:=True
def Bq (o:d3) (x:List bj):List C:=[.s o (x.map (bj.enc o))]
def Gk (x:List bj):Prop:=x.length<=9223372036854775807/\∀ y∈x,bj.wf y
def wd (x:List bj):Prop:=x.length<=1048576/\∀ y∈x,bj.sml y
structure aE where
 Entries:List bj
deriving DecidableEq,Inhabited
def aE.enc (o:d3) (x:aE):List C:=[.s o (x.Entries.map (bj.enc o))]
theorem aE.enc_fz (x:aE):d9 (aE.enc .own x)=aE.enc .imm x:=by simp[d9,aE.enc,bj.enc_fz,<-bW,Function.comp_def]
theorem aE.enc_fr (x:aE):gG (aE.enc .own x):=⟨⟨.inl fun h=>(by cases h),aZ _ _ fun y _=>bj.enc_fr y⟩,trivial⟩
def aE.wf (x:aE):Prop:=Gk x.Entries
def aE.sml (x:aE):Prop:=wd x.Entries
structure aP where
 Frames:aQ
 Table:aE
deriving DecidableEq,Inhabited
def aP.enc (o:d3) (x:aP):List C:=[.s o (x.Frames.Cells.map (aF o)),.s o (x.Frames.Used.map (rB o)),.s o (x.Table.Entries.map (bj.enc o))]
theorem aP.enc_fz (x:aP):d9 (aP.enc .own x)=aP.enc .imm x:=by simp[d9,aP.enc,bj.enc_fz,rB,dZ,<-bW,Function.comp_def]
theorem aP.enc_fr (x:aP):gG (aP.enc .own x):=⟨⟨.inl fun h=>(by cases h),aZ _ _ fun y _=>bK y⟩,⟨.inl fun h=>(by cases h),aZ _ _ fun y _=>AB y⟩,⟨.inl fun h=>(by cases h),aZ _ _ fun y _=>bj.enc_fr y⟩,trivial⟩
def aP.wf (x:aP):Prop:=aQ.wf x.Frames/\aE.wf x.Table
def aP.sml (x:aP):Prop:=aQ.sml x.Frames/\aE.sml x.Table
structure af where
 Machine:aP
 Calls:Int
 Refuse:List Int
deriving DecidableEq,Inhabited
def af.enc (o:d3) (x:af):List C:=[.s o (x.Machine.Frames.Cells.map (aF o)),.s o (x.Machine.Frames.Used.map (rB o)),.s o (x.Machine.Table.Entries.map (bj.enc o)),I x.Calls,.s o (x.Refuse.map (rI o))]
theorem af.enc_fz (x:af):d9 (af.enc .own x)=af.enc .imm x:=by simp[d9,af.enc,bj.enc_fz,rB,rI,dZ,<-bW,Function.comp_def]
theorem af.enc_fr (x:af):gG (af.enc .own x):=⟨⟨.inl fun h=>(by cases h),aZ _ _ fun y _=>bK y⟩,⟨.inl fun h=>(by cases h),aZ _ _ fun y _=>AB y⟩,⟨.inl fun h=>(by cases h),aZ _ _ fun y _=>bj.enc_fr y⟩,trivial,⟨.inl fun h=>(by cases h),aZ _ _ fun y _=>oN y⟩,trivial⟩
def af.wf (x:af):Prop:=aP.wf x.Machine/\l7 x.Calls/\i9 x.Refuse
def af.sml (x:af):Prop:=aP.sml x.Machine/\qT x.Refuse
structure a7 where
 At:Int
 Len:Int
deriving DecidableEq,Inhabited
def a7.enc (o:d3) (x:a7):List C:=[I x.At,I x.Len]
theorem a7.enc_fz (x:a7):d9 (a7.enc .own x)=a7.enc .imm x:=by simp[d9,a7.enc]
theorem a7.enc_fr (x:a7):gG (a7.enc .own x):=⟨trivial,trivial,trivial⟩
def a7.wf (x:a7):Prop:=l7 x.At/\l7 x.Len
def a7.sml (_:a7):Prop:=True
def bD (o:d3) (x:List a7):List C:=[.s o (x.map (a7.enc o))]
theorem dE (x:List a7):d9 (bD .own x)=bD .imm x:=by simp[d9,bD,a7.enc_fz,<-bW,Function.comp_def]
theorem jW (x:List a7):gG (bD .own x):=⟨⟨.inl fun h=>(by cases h),aZ _ _ fun y _=>a7.enc_fr y⟩,trivial⟩
def G8 (x:List a7):Prop:=x.length<=9223372036854775807/\∀ y∈x,a7.wf y
def fT (x:List a7):Prop:=x.length<=1048576/\∀ y∈x,a7.sml y
structure au where
 Page:Int
 Class:Int
 Bits:Int
deriving DecidableEq,Inhabited
def au.enc (o:d3) (x:au):List C:=[I x.Page,I x.Class,I x.Bits]
theorem au.enc_fz (x:au):d9 (au.enc .own x)=au.enc .imm x:=by simp[d9,au.enc]
theorem au.enc_fr (x:au):gG (au.enc .own x):=⟨trivial,trivial,trivial,trivial⟩
def au.wf (x:au):Prop:=l7 x.Page/\l7 x.Class/\l7 x.Bits
def au.sml (_:au):Prop:=True
def ci (o:d3) (x:List au):List C:=[.s o (x.map (au.enc o))]
theorem tX (x:List au):d9 (ci .own x)=ci .imm x:=by simp[d9,ci,au.enc_fz,<-bW,Function.comp_def]
theorem EQ (x:List au):gG (ci .own x):=⟨⟨.inl fun h=>(by cases h),aZ _ _ fun y _=>au.enc_fr y⟩,trivial⟩
def Kw (x:List au):Prop:=x.length<=9223372036854775807/\∀ y∈x,au.wf y
def dq (x:List au):Prop:=x.length<=1048576/\∀ y∈x,au.sml y
structure aA where
 Page:Int
 Pages:Int
 Size:Int
deriving DecidableEq,Inhabited
def aA.enc (o:d3) (x:aA):List C:=[I x.Page,I x.Pages,I x.Size]
theorem aA.enc_fz (x:aA):d9 (aA.enc .own x)=aA.enc .imm x:=by simp[d9,aA.enc]
theorem aA.enc_fr (x:aA):gG (aA.enc .own x):=⟨trivial,trivial,trivial,trivial⟩
def aA.wf (x:aA):Prop:=l7 x.Page/\l7 x.Pages/\l7 x.Size
def aA.sml (_:aA):Prop:=True
def bY (o:d3) (x:List aA):List C:=[.s o (x.map (aA.enc o))]
theorem AF (x:List aA):d9 (bY .own x)=bY .imm x:=by simp[d9,bY,aA.enc_fz,<-bW,Function.comp_def]
def Gm (x:List aA):Prop:=x.length<=9223372036854775807/\∀ y∈x,aA.wf y
def dt (x:List aA):Prop:=x.length<=1048576/\∀ y∈x,aA.sml y
structure bO where
 Id:Int
 Addr:Int
 Size:Int
 Thread:Int
deriving DecidableEq,Inhabited
def bO.enc (o:d3) (x:bO):List C:=[I x.Id,I x.Addr,I x.Size,I x.Thread]
theorem bO.enc_fz (x:bO):d9 (bO.enc .own x)=bO.enc .imm x:=by simp[d9,bO.enc]
theorem bO.enc_fr (x:bO):gG (bO.enc .own x):=⟨trivial,trivial,trivial,trivial,trivial⟩
def bO.wf (x:bO):Prop:=l7 x.Id/\l7 x.Addr/\l7 x.Size/\l7 x.Thread
def bO.sml (_:bO):Prop:=True
def nG (o:d3) (x:List bO):List C:=[.s o (x.map (bO.enc o))]
theorem Hc (x:List bO):d9 (nG .own x)=nG .imm x:=by simp[d9,nG,bO.enc_fz,<-bW,Function.comp_def]
def Lx (x:List bO):Prop:=x.length<=9223372036854775807/\∀ y∈x,bO.wf y
def K6 (x:List bO):Prop:=x.length<=1048576/\∀ y∈x,bO.sml y
structure aC where
 Lists:List (List Int)
deriving DecidableEq,Inhabited
def aC.enc (o:d3) (x:aC):List C:=[.s o (x.Lists.map (aF o))]
theorem aC.enc_fz (x:aC):d9 (aC.enc .own x)=aC.enc .imm x:=by simp[d9,aC.enc,dZ,<-bW,Function.comp_def]
theorem aC.enc_fr (x:aC):gG (aC.enc .own x):=⟨⟨.inl fun h=>(by cases h),aZ _ _ fun y _=>bK y⟩,trivial⟩
def aC.wf (x:aC):Prop:=yH x.Lists
def aC.sml (x:aC):Prop:=lr x.Lists
def nI (o:d3) (x:List aC):List C:=[.s o (x.map (aC.enc o))]
def Gv (x:List aC):Prop:=x.length<=9223372036854775807/\∀ y∈x,aC.wf y
def w9 (x:List aC):Prop:=x.length<=1048576/\∀ y∈x,aC.sml y
structure cS where
 To:Int
 Addr:Int
deriving DecidableEq,Inhabited
def cS.enc (o:d3) (x:cS):List C:=[I x.To,I x.Addr]
theorem cS.enc_fz (x:cS):d9 (cS.enc .own x)=cS.enc .imm x:=by simp[d9,cS.enc]
theorem cS.enc_fr (x:cS):gG (cS.enc .own x):=⟨trivial,trivial,trivial⟩
def cS.wf (x:cS):Prop:=l7 x.To/\l7 x.Addr
def cS.sml (_:cS):Prop:=True
def cA (o:d3) (x:List cS):List C:=[.s o (x.map (cS.enc o))]
theorem p6 (x:List cS):d9 (cA .own x)=cA .imm x:=by simp[d9,cA,cS.enc_fz,<-bW,Function.comp_def]
theorem pq (x:List cS):gG (cA .own x):=⟨⟨.inl fun h=>(by cases h),aZ _ _ fun y _=>cS.enc_fr y⟩,trivial⟩
def JZ (x:List cS):Prop:=x.length<=9223372036854775807/\∀ y∈x,cS.wf y
def GA (x:List cS):Prop:=x.length<=1048576/\∀ y∈x,cS.sml y
def v7 (o:d3) (x:List (List cS)):List C:=[.s o (x.map (cA o))]
def GL (x:List (List cS)):Prop:=x.length<=9223372036854775807/\∀ y∈x,JZ y
def wG (x:List (List cS)):Prop:=x.length<=1048576/\∀ y∈x,GA y
structure aH where
 Buffers:List (List cS)
 Inbox:List (List Int)
deriving DecidableEq,Inhabited
def aH.enc (o:d3) (x:aH):List C:=[.s o (x.Buffers.map (cA o)),.s o (x.Inbox.map (aF o))]
theorem aH.enc_fz (x:aH):d9 (aH.enc .own x)=aH.enc .imm x:=by simp[d9,aH.enc,p6,dZ,<-bW,Function.comp_def]
theorem aH.enc_fr (x:aH):gG (aH.enc .own x):=⟨⟨.inl fun h=>(by cases h),aZ _ _ fun y _=>pq y⟩,⟨.inl fun h=>(by cases h),aZ _ _ fun y _=>bK y⟩,trivial⟩
def aH.wf (x:aH):Prop:=GL x.Buffers/\yH x.Inbox
def aH.sml (x:aH):Prop:=wG x.Buffers/\lr x.Inbox
structure aM where
 Addr:Int
 Class:Int
 Since:Int
deriving DecidableEq,Inhabited
def aM.enc (o:d3) (x:aM):List C:=[I x.Addr,I x.Class,I x.Since]
theorem aM.enc_fz (x:aM):d9 (aM.enc .own x)=aM.enc .imm x:=by simp[d9,aM.enc]
theorem aM.enc_fr (x:aM):gG (aM.enc .own x):=⟨trivial,trivial,trivial,trivial⟩
def aM.wf (x:aM):Prop:=l7 x.Addr/\l7 x.Class/\l7 x.Since
def aM.sml (_:aM):Prop:=True
def cC (o:d3) (x:List aM):List C:=[.s o (x.map (aM.enc o))]
theorem A4 (x:List aM):d9 (cC .own x)=cC .imm x:=by simp[d9,cC,aM.enc_fz,<-bW,Function.comp_def]
theorem sR (x:List aM):gG (cC .own x):=⟨⟨.inl fun h=>(by cases h),aZ _ _ fun y _=>aM.enc_fr y⟩,trivial⟩
def Ho (x:List aM):Prop:=x.length<=9223372036854775807/\∀ y∈x,aM.wf y
def jI (x:List aM):Prop:=x.length<=1048576/\∀ y∈x,aM.sml y
structure bB where
 Room:Int
 Lst:List aM
deriving DecidableEq,Inhabited
def bB.enc (o:d3) (x:bB):List C:=[I x.Room,.s o (x.Lst.map (aM.enc o))]
theorem bB.enc_fz (x:bB):d9 (bB.enc .own x)=bB.enc .imm x:=by simp[d9,bB.enc,aM.enc_fz,<-bW,Function.comp_def]
theorem bB.enc_fr (x:bB):gG (bB.enc .own x):=⟨trivial,⟨.inl fun h=>(by cases h),aZ _ _ fun y _=>aM.enc_fr y⟩,trivial⟩
def bB.wf (x:bB):Prop:=l7 x.Room/\Ho x.Lst
def bB.sml (x:bB):Prop:=jI x.Lst
structure cg where
 Keep:Int
 Move:Int
 Cells:List Int
deriving DecidableEq,Inhabited
def cg.enc (o:d3) (x:cg):List C:=[I x.Keep,I x.Move,.s o (x.Cells.map (rI o))]
theorem cg.enc_fz (x:cg):d9 (cg.enc .own x)=cg.enc .imm x:=by simp[d9,cg.enc,rI,<-bW,Function.comp_def]
theorem cg.enc_fr (x:cg):gG (cg.enc .own x):=⟨trivial,trivial,⟨.inl fun h=>(by cases h),aZ _ _ fun y _=>oN y⟩,trivial⟩
def cg.wf (x:cg):Prop:=l7 x.Keep/\l7 x.Move/\i9 x.Cells
def cg.sml (x:cg):Prop:=qT x.Cells
structure co where
 Plan:cg
 Phase:Int
 Next:Int
deriving DecidableEq,Inhabited
def co.enc (o:d3) (x:co):List C:=[I x.Plan.Keep,I x.Plan.Move,.s o (x.Plan.Cells.map (rI o)),I x.Phase,I x.Next]
theorem co.enc_fz (x:co):d9 (co.enc .own x)=co.enc .imm x:=by simp[d9,co.enc,rI,<-bW,Function.comp_def]
theorem co.enc_fr (x:co):gG (co.enc .own x):=⟨trivial,trivial,⟨.inl fun h=>(by cases h),aZ _ _ fun y _=>oN y⟩,trivial,trivial,trivial⟩
def co.wf (x:co):Prop:=cg.wf x.Plan/\l7 x.Phase/\l7 x.Next
def co.sml (x:co):Prop:=cg.sml x.Plan
structure ab where
 Kernel:af
 Free:List a7
 Spans:List au
 Larges:List aA
 Objs:List bO
 Caches:List aC
 Mail:aH
 Quar:bB
 Seed:Int
 Clock:Int
 Limit:Int
 Next:Int
 Meshing:Bool
 Job:co
deriving DecidableEq,Inhabited
def ab.enc (o:d3) (x:ab):List C:=[.s o (x.Kernel.Machine.Frames.Cells.map (aF o)),.s o (x.Kernel.Machine.Frames.Used.map (rB o)),.s o (x.Kernel.Machine.Table.Entries.map (bj.enc o)),I x.Kernel.Calls,.s o (x.Kernel.Refuse.map (rI o)),.s o (x.Free.map (a7.enc o)),.s o (x.Spans.map (au.enc o)),.s o (x.Larges.map (aA.enc o)),.s o (x.Objs.map (bO.enc o)),.s o (x.Caches.map (aC.enc o)),.s o (x.Mail.Buffers.map (cA o)),.s o (x.Mail.Inbox.map (aF o)),I x.Quar.Room,.s o (x.Quar.Lst.map (aM.enc o)),I x.Seed,I x.Clock,I x.Limit,I x.Next,B x.Meshing,I x.Job.Plan.Keep,I x.Job.Plan.Move,.s o (x.Job.Plan.Cells.map (rI o)),I x.Job.Phase,I x.Job.Next]
theorem ab.enc_fz (x:ab):d9 (ab.enc .own x)=ab.enc .imm x:=by simp[d9,ab.enc,aC.enc_fz,bj.enc_fz,aA.enc_fz,bO.enc_fz,a7.enc_fz,au.enc_fz,aM.enc_fz,rB,p6,rI,dZ,<-bW,Function.comp_def]
theorem ab.enc_fr (x:ab):gG (ab.enc .own x):=⟨⟨.inl fun h=>(by cases h),aZ _ _ fun y _=>bK y⟩,⟨.inl fun h=>(by cases h),aZ _ _ fun y _=>AB y⟩,⟨.inl fun h=>(by cases h),aZ _ _ fun y _=>bj.enc_fr y⟩,trivial,⟨.inl fun h=>(by cases h),aZ _ _ fun y _=>oN y⟩,⟨.inl fun h=>(by cases h),aZ _ _ fun y _=>a7.enc_fr y⟩,⟨.inl fun h=>(by cases h),aZ _ _ fun y _=>au.enc_fr y⟩,⟨.inl fun h=>(by cases h),aZ _ _ fun y _=>aA.enc_fr y⟩,⟨.inl fun h=>(by cases h),aZ _ _ fun y _=>bO.enc_fr y⟩,⟨.inl fun h=>(by cases h),aZ _ _ fun y _=>aC.enc_fr y⟩,⟨.inl fun h=>(by cases h),aZ _ _ fun y _=>pq y⟩,⟨.inl fun h=>(by cases h),aZ _ _ fun y _=>bK y⟩,trivial,⟨.inl fun h=>(by cases h),aZ _ _ fun y _=>aM.enc_fr y⟩,trivial,trivial,trivial,trivial,trivial,trivial,trivial,⟨.inl fun h=>(by cases h),aZ _ _ fun y _=>oN y⟩,trivial,trivial,trivial⟩
def ab.wf (x:ab):Prop:=af.wf x.Kernel/\G8 x.Free/\Kw x.Spans/\Gm x.Larges/\Lx x.Objs/\Gv x.Caches/\aH.wf x.Mail/\bB.wf x.Quar/\l7 x.Seed/\l7 x.Clock/\l7 x.Limit/\l7 x.Next/\NW x.Meshing/\co.wf x.Job
def ab.sml (x:ab):Prop:=af.sml x.Kernel/\fT x.Free/\dq x.Spans/\dt x.Larges/\K6 x.Objs/\w9 x.Caches/\aH.sml x.Mail/\bB.sml x.Quar/\co.sml x.Job
structure iy where
 Kind:Int
 Index:Int
 Slot:Int
 Offset:Int
deriving DecidableEq,Inhabited
def iy.enc (o:d3) (x:iy):List C:=[I x.Kind,I x.Index,I x.Slot,I x.Offset]
theorem iy.enc_fr (x:iy):gG (iy.enc .own x):=⟨trivial,trivial,trivial,trivial,trivial⟩
structure NT where
 Id:Int
 Size:Int
 Sum:Int
deriving DecidableEq,Inhabited
structure bF where
 Id:Int
 Cells:List Int
deriving DecidableEq,Inhabited
def bF.enc (o:d3) (x:bF):List C:=[I x.Id,.s o (x.Cells.map (rI o))]
theorem bF.enc_fz (x:bF):d9 (bF.enc .own x)=bF.enc .imm x:=by simp[d9,bF.enc,rI,<-bW,Function.comp_def]
theorem bF.enc_fr (x:bF):gG (bF.enc .own x):=⟨trivial,⟨.inl fun h=>(by cases h),aZ _ _ fun y _=>oN y⟩,trivial⟩
def bF.sml (x:bF):Prop:=qT x.Cells
def Dw (x:List bF):Prop:=x.length<=1048576/\∀ y∈x,bF.sml y
structure ax where
 Next:Int
 Objs:List bF
deriving DecidableEq,Inhabited
def ax.enc (o:d3) (x:ax):List C:=[I x.Next,.s o (x.Objs.map (bF.enc o))]
theorem ax.enc_fz (x:ax):d9 (ax.enc .own x)=ax.enc .imm x:=by simp[d9,ax.enc,bF.enc_fz,<-bW,Function.comp_def]
theorem ax.enc_fr (x:ax):gG (ax.enc .own x):=⟨trivial,⟨.inl fun h=>(by cases h),aZ _ _ fun y _=>bF.enc_fr y⟩,trivial⟩
def ax.sml (x:ax):Prop:=Dw x.Objs
structure bG where
 Heap:ab
 Ref:ax
deriving DecidableEq,Inhabited
def bG.enc (o:d3) (x:bG):List C:=[.s o (x.Heap.Kernel.Machine.Frames.Cells.map (aF o)),.s o (x.Heap.Kernel.Machine.Frames.Used.map (rB o)),.s o (x.Heap.Kernel.Machine.Table.Entries.map (bj.enc o)),I x.Heap.Kernel.Calls,.s o (x.Heap.Kernel.Refuse.map (rI o)),.s o (x.Heap.Free.map (a7.enc o)),.s o (x.Heap.Spans.map (au.enc o)),.s o (x.Heap.Larges.map (aA.enc o)),.s o (x.Heap.Objs.map (bO.enc o)),.s o (x.Heap.Caches.map (aC.enc o)),.s o (x.Heap.Mail.Buffers.map (cA o)),.s o (x.Heap.Mail.Inbox.map (aF o)),I x.Heap.Quar.Room,.s o (x.Heap.Quar.Lst.map (aM.enc o)),I x.Heap.Seed,I x.Heap.Clock,I x.Heap.Limit,I x.Heap.Next,B x.Heap.Meshing,I x.Heap.Job.Plan.Keep,I x.Heap.Job.Plan.Move,.s o (x.Heap.Job.Plan.Cells.map (rI o)),I x.Heap.Job.Phase,I x.Heap.Job.Next,I x.Ref.Next,.s o (x.Ref.Objs.map (bF.enc o))]
theorem bG.enc_fr (x:bG):gG (bG.enc .own x):=⟨⟨.inl fun h=>(by cases h),aZ _ _ fun y _=>bK y⟩,⟨.inl fun h=>(by cases h),aZ _ _ fun y _=>AB y⟩,⟨.inl fun h=>(by cases h),aZ _ _ fun y _=>bj.enc_fr y⟩,trivial,⟨.inl fun h=>(by cases h),aZ _ _ fun y _=>oN y⟩,⟨.inl fun h=>(by cases h),aZ _ _ fun y _=>a7.enc_fr y⟩,⟨.inl fun h=>(by cases h),aZ _ _ fun y _=>au.enc_fr y⟩,⟨.inl fun h=>(by cases h),aZ _ _ fun y _=>aA.enc_fr y⟩,⟨.inl fun h=>(by cases h),aZ _ _ fun y _=>bO.enc_fr y⟩,⟨.inl fun h=>(by cases h),aZ _ _ fun y _=>aC.enc_fr y⟩,⟨.inl fun h=>(by cases h),aZ _ _ fun y _=>pq y⟩,⟨.inl fun h=>(by cases h),aZ _ _ fun y _=>bK y⟩,trivial,⟨.inl fun h=>(by cases h),aZ _ _ fun y _=>aM.enc_fr y⟩,trivial,trivial,trivial,trivial,trivial,trivial,trivial,⟨.inl fun h=>(by cases h),aZ _ _ fun y _=>oN y⟩,trivial,trivial,trivial,⟨.inl fun h=>(by cases h),aZ _ _ fun y _=>bF.enc_fr y⟩,trivial⟩
structure Ny where
 Pages:Int
 Mapped:Int
 Frames:Int
 Held:Int
 lw:Int
 Cached:Int
 Stale:Int
 Posted:Int
deriving DecidableEq,Inhabited
theorem Lm {α β:Type} {f:α->β} {l:List α} {K:Nat->Prop} (h:K l.length):Ln (l.map f).length K:=Ln.mk (U0 ..) h
theorem Wm {z:Int} {K:Int->Prop} (h : -9223372036854775808<=z/\z<=9223372036854775807) (hK:K z):Wr .i64 z K:=Wr.mk (dS h.1 h.2) hK
theorem dT {p:Prop} [Decidable p] {X Y:Prop} (h:p) (hX:p->X):Bf (decide p) X Y:=.D hX fun e=>absurd h e
theorem dF {p:Prop} [Decidable p] {X Y:Prop} (h:¬p) (hY:¬p->Y):Bf (decide p) X Y:=.D (fun e=>absurd e h) hY
theorem nT {a b:Int} {X Y:Prop} (h:a≠b) (hX:a≠b->X):Bf (a != b) X Y:=.N hX fun e=>absurd e h
theorem nF {a b:Int} {X Y:Prop} (h:a=b) (hY:a=b->Y):Bf (a != b) X Y:=.N (fun e=>absurd h e) hY
theorem eT {a b:Int} {X Y:Prop} (h:a=b) (hX:a=b->X):Bf (a == b) X Y:=.E hX fun e=>absurd h e
theorem eF {a b:Int} {X Y:Prop} (h:a≠b) (hY:a≠b->Y):Bf (a == b) X Y:=.E (fun e=>absurd e h) hY
theorem Bn {b:Bool} {X Y:Prop} (h:Bf b Y X):Bf (!b) X Y:=.not h
theorem Bt {X Y:Prop} (h:X):Bf true X Y:=.t rfl h
theorem Bu {X Y:Prop} (h:Y):Bf false X Y:=.f rfl h
theorem Fm {k k':Kd} {cs cs':List C} (h1:k=k') (h:cs=cs'):i6 k k' cs cs':=.mk h1 h
theorem dV {p:Prop} [Decidable p] {X Y:Prop} (h:p) (hX:X):Bf (decide p) X Y:=.D (fun _=>hX) fun e=>absurd h e
theorem dW {p:Prop} [Decidable p] {X Y:Prop} (h:¬p) (hY:Y):Bf (decide p) X Y:=.D (fun e=>absurd e h) fun _=>hY
theorem nV {a b:Int} {X Y:Prop} (h:a≠b) (hX:X):Bf (a != b) X Y:=.N (fun _=>hX) fun e=>absurd e h
theorem nW {a b:Int} {X Y:Prop} (h:a=b) (hY:Y):Bf (a != b) X Y:=.N (fun e=>absurd h e) fun _=>hY
theorem eV {a b:Int} {X Y:Prop} (h:a=b) (hX:X):Bf (a == b) X Y:=.E (fun _=>hX) fun e=>absurd h e
theorem eW {a b:Int} {X Y:Prop} (h:a≠b) (hY:Y):Bf (a == b) X Y:=.E (fun e=>absurd e h) fun _=>hY
structure Mv (Y:Prop):Prop where
 out:Y
theorem gO {X Y:Prop} (y:Y) (h:Mv Y->X:=by intro y;(conv=>whnf);(first|with_reducible (first|refine Lm ?_|refine Wm (by omega) ?_|refine Bn ?_|refine Fm rfl ?_)|refine Bt ?_|refine Bu ?_|fail);exact y.out):X:=h ⟨y⟩
theorem gD {X Y:Prop} (y:Y) (h:Mv Y->X:=by intro y;(conv=>whnf);(first|with_reducible (first|refine Lm ?_|refine Wm (by omega) ?_|refine dV (by omega) ?_|refine dW (by omega) ?_|refine Bn ?_|refine Fm rfl ?_)|refine Bt ?_|refine Bu ?_|fail);exact y.out):X:=h ⟨y⟩
theorem gA {X Y:Prop} (y:Y) (h:Mv Y->X:=by intro y;(conv=>whnf);(first|with_reducible (first|refine Lm ?_|refine Wm (by omega) ?_|refine dV (by omega) ?_|refine dW (by omega) ?_|refine nV (by omega) ?_|refine nW (by omega) ?_|refine eV (by omega) ?_|refine eW (by omega) ?_|refine Bn ?_|refine Fm rfl ?_)|refine Bt ?_|refine Bu ?_|fail);exact y.out):X:=h ⟨y⟩
theorem Nc {z1 z2:Int} (h:z1=z2):LO (I z1) (I z2):=by subst h;rfl
theorem NJ (c:C):LO c c:=(kU [c]).1
theorem wA {X:Prop} (h:X:=by repeat'(first|exact trivial|rfl|refine And.intro ?_ ?_)):X:=h
theorem wB {X:Prop} (h:X:=by repeat'(first|exact trivial|rfl|refine And.intro ?_ ?_|(exact Nc (by first|omega|(simp only;omega)|(simp;omega))))):X:=h
theorem wC {X:Prop} (h:X:=by repeat'(first|exact trivial|rfl|exact NJ _|refine And.intro ?_ ?_|(exact Nc (by first|omega|(simp only;omega)|(simp;omega))))):X:=h
theorem fO (n : Nat) {f : Nat} {fn : Func} {c : Code} {sh : Bool} {A : List RA} {k : Kd} {rcs : List C} (tb : List (Nat × Nat × List Nat)) (hf : Tryz.prog.funcs[f]? = some fn) (hb : fn.body = some c) (hp : aw Tryz.prog TE ⟨n, [], []⟩ (DF Tryz.prog TE ⟨n, [], []⟩ tb) c (LZ TE fn.results.toList k rcs) (lay (tn 0 A))) (hsh : sh = true \/ gG rcs := by exact .inr ⟨trivial, trivial⟩) (hn : (fn.name == "runtime.NumGoroutine") = false := by kernel_rfl) (hc : fo (mh tb) c = true := by kernel_rfl) (hN : A.length + (fn.ntmps - A.length) = n := by rfl) : ao Tryz.prog f sh A k rcs := Nj hf hn hb hc hN hsh hp
theorem fP (n : Nat) {f : Nat} {fn : Func} {c : Code} {sh : Bool} {A : List RA} {k : Kd} {rcs : List C} (mo : List (Nat × List Nat)) (tb : List (Nat × Nat × List Nat)) (hf : Tryz.prog.funcs[f]? = some fn) (hb : fn.body = some c) (hp : aw Tryz.prog TE ⟨n, [], mo⟩ (DF Tryz.prog TE ⟨n, [], mo⟩ tb) c (LZ TE fn.results.toList k rcs) (lay (tn 0 A))) (hsh : sh = true \/ gG rcs := by exact .inr ⟨trivial, trivial⟩) (hn : (fn.name == "runtime.NumGoroutine") = false := by kernel_rfl) (hc : fo (mh tb) c = true := by kernel_rfl) (hN : A.length + (fn.ntmps - A.length) = n := by rfl) : ao Tryz.prog f sh A k rcs := Nj hf hn hb hc hN hsh hp
theorem fM (n : Nat) {f : Nat} {fn : Func} {c : Code} {sh : Bool} {A B : List MA} {k : Kd} {rcs : List C} (mo : List (Nat × List Nat)) (tb : List (Nat × Nat × List Nat)) (pl : List (Nat × Nat)) (hf : Tryz.prog.funcs[f]? = some fn) (hb : fn.body = some c) (hp : ∀ (u : Nat -> Nat -> Value) (p : Nat -> Value), aw Tryz.prog TE ⟨n, Ft p 0 A, mo⟩ (DF Tryz.prog TE ⟨n, Ft p 0 A, mo⟩ tb) c (MI TE fn.results.toList k rcs u A B pl) (lay (vc u 0 A))) (hsh : sh = true \/ gG rcs := by exact .inr ⟨trivial, trivial⟩) (hn : (fn.name == "runtime.NumGoroutine") = false := by kernel_rfl) (hc : fo (mh tb) c = true := by kernel_rfl) (hN : A.length + (fn.ntmps - A.length) = n := by rfl) (hok : Ex (A5 0 A pl) = true := by rfl) : aT Tryz.prog f sh A B k rcs := N3 pl hf hn hb hc hN hok hsh hp
section
variable {α:Type} {l:List α} {p:α->Bool} {i:Nat} {x:α}
theorem cz (h:l[i]? = some x) (ha:(l.take i).all p=true) (hx:p x=true):(l.take (i+1)).all p=true:=by
 rw[List.take_add_one,h,List.all_append,ha];simp[hx]
theorem dP (h:l[i]? = some x) (hx:p x=false):l.all p=false:=by
 rw[List.all_eq_false];exact⟨x,O1 h,by simp[hx]⟩
theorem gf (hi:l.length<=i) (ha:(l.take i).all p=true):l.all p=true:=by
 rwa [List.take_of_length_le hi]at ha
end
theorem tN {α β:Type} {a:List α} {b:List β} {i:Nat} {x:α} {y:β} (h1:a[i]? = some x) (h2:b[i]? = some y):(a.zip b)[i]? = some (x,y):=by
 rw[List.getElem?_zip_eq_some];exact⟨h1,h2⟩
def nth {α:Type} [Inhabited α] (xs:List α) (i:Nat):α:=xs.getD i default
theorem ah {α:Type} [Inhabited α] {xs:List α} {i:Nat} (h:i<xs.length):xs[i]? = some (nth xs i):=by
 unfold nth;rw[V1,Q1 h];rfl
theorem bq {α:Type} [Inhabited α] {xs:List α} {i:Nat} {y:α} (h:xs[i]? = some y):nth xs i=y:=by
 unfold nth;rw[V1,h];rfl
theorem am {α:Type} [Inhabited α] {xs:List α} {i:Nat} (h:i<xs.length):nth xs i∈xs:=O1 (ah h)
def cH (n:Nat) (p:Nat->Bool):Bool:=(List.range n).all p
theorem cn {n:Nat} {p:Nat->Bool} : cH n p=true↔∀ j,j<n->p j=true:=by
 unfold cH;simp
theorem bJ {n:Nat} {p:Nat->Bool} (h:cH n p=true) (hp:p n=true):cH (n+1) p=true:=by
 rw[cn]at *;grind
theorem cb {n i:Nat} {p:Nat->Bool} (hi:i<n) (hp:p i=false):cH n p=false:=by
 by_cases h:cH n p=true
 ·rw[cn]at h;grind
 ·simpa using h
theorem dB {n i:Nat} {p:Nat->Bool} (h:cH n p=true) (hi:i<n):p i=true:=cn.1 h i hi
def ir (u:Bool) (v:Int):Bool:=decide (0<=v/\v<=999)&&(u || decide (v=0))
def gM (r:List Int) (u:Bool):Bool:=decide (r.length=16)&&r.all (ir u)
def cq (f:aQ):Bool:=decide (1<=f.Cells.length/\f.Cells.length<=32)&&(decide (f.Used.length=f.Cells.length)&&(f.Cells.zip f.Used).all fun q=>gM q.1 q.2)
theorem gP {f:aQ} {i:Nat} {r:List Int} {u:Bool} (h1:f.Cells[i]? = some r) (h2:f.Used[i]? = some u) (h3:gM r u=false):cq f=false:=by
 unfold cq;rw[dP (p:=fun q=>gM q.1 q.2) (tN h1 h2) h3];simp
theorem qf {r:List Int} {u:Bool} {k:Nat} {v:Int} (h1:r[k]? = some v) (h2:ir u v=false):gM r u=false:=by
 unfold gM;rw[dP h1 h2];simp
theorem qu {f:aQ} (h:cq f=true):1<=f.Cells.length/\f.Cells.length<=32/\f.Used.length=f.Cells.length:=by
 unfold cq at h;simp only[I0,C0]at h;exact⟨h.1.1,h.1.2,h.2.1⟩
def jQ (fr:Int) (e:bj):Bool:=decide (0<=e.Mode/\e.Mode<=2/\(e.Mode=0->e.Frame=0)/\(e.Mode≠0->0<=e.Frame/\e.Frame<fr))
def f7 (t:aE) (fr:Int):Bool:=cH t.Entries.length (fun i=>jQ fr (nth t.Entries i))&&decide (1<=t.Entries.length/\t.Entries.length<=32)
def GR (t:aE) (f:Int) (i:Nat):Bool:=decide ((nth t.Entries i).Mode≠0/\(nth t.Entries i).Frame=f)
def im (t:aE) (f:Int) (n:Nat):List Int:=((List.range n).filter (GR t f)).map fun(i:Nat)=>(i:Int)
def pagesOn (t:aE) (f:Int):List Int:=im t f t.Entries.length
theorem yr {t:aE} {f:Int} {n:Nat} (h:GR t f n=true):im t f (n+1)=im t f n++[(n:Int)]:=by
 unfold im;rw[List.range_succ,List.filter_append,List.map_append];simp[h]
theorem BH {t:aE} {f:Int} {n:Nat} (h:GR t f n=false):im t f (n+1)=im t f n:=by
 unfold im;rw[List.range_succ,List.filter_append,List.map_append];simp[h]
theorem rL (t:aE) (f:Int) (n:Nat):(im t f n).length<=n:=by
 unfold im;rw[U0];exact W3 (List.length_filter_le ..) (by simp)
def ar (t:aE) (p:Int):bj:=if 0<=p/\p<t.Entries.length then nth t.Entries p.toNat else⟨0,0⟩
def ne (m:aP) (i:Nat):Bool:=nth m.Frames.Used i == decide (0<(pagesOn m.Table (i:Int)).length)
def cX (m:aP):Bool:=(cq m.Frames&&f7 m.Table m.Frames.Used.length)&&cH m.Frames.Used.length (ne m)
def a8 (k:af):Bool:=(cH k.Refuse.length (fun i=>decide (0<=nth k.Refuse i))&&cX k.Machine)&&decide (0<=k.Calls/\k.Calls<=100000/\k.Refuse.length<=40)
def rangeIn (pages:Int) (r:a7):Bool:=decide (1<=r.Len/\r.Len<=pages/\0<=r.At/\r.At<=pages - r.Len)
def f6 (pages:Int) (xs:List a7) (i:Nat):Bool:=rangeIn pages (nth xs i)&&decide (i=0\/(nth xs (i - 1)).At+(nth xs (i - 1)).Len<(nth xs i).At)
def bx (pages:Int) (xs:List a7):Bool:=cH xs.length (f6 pages xs)&&decide (1<=pages/\pages<=32)
def pN (page:Int) (r:a7):Bool:=decide (r.At<=page)&&decide (page<IntKind.i64.wrap (r.At+r.Len))
def lim (k:Int):Int:=if k=0 then 65535 else if k=1 then 255 else if k=2 then 15 else if k=3 then 3 else 0
def slots (k:Int):Int:=if k=0 then 16 else if k=1 then 8 else if k=2 then 4 else if k=3 then 2 else 0
def bf (s:au):Bool:=decide (0<=s.Page/\s.Page<=31/\0<=s.Class/\s.Class<=3/\0<=s.Bits/\s.Bits<=lim s.Class)
def eC (n:Int):Int:=if 9<=n/\n<=1000 then(n+15) / 16 else 0
def bS (l:aA):Bool:=decide (9<=l.Size/\l.Size<=1000/\l.Pages=(l.Size+15) / 16/\0<=l.Page/\l.Page<=32 - l.Pages)
def lpgs (l:aA) (n:Nat):List Int:=(List.range n).map fun(i:Nat)=>l.Page+i
def pgs (sp:List au) (la:List aA):List Int:=sp.map (·.Page)++la.flatMap fun l=>lpgs l l.Pages.toNat
def bg (sp:List au) (la:List aA):Bool:=(sp.all bf&&la.all bS)&&decide (pgs sp la).Nodup
def cy (s:au) (a:Int):Bool:=bf s&&decide (16*s.Page<=a/\a<=16*s.Page+15)
def aY (b i:Int):Bool:=decide (0<=b/\0<=i/\i<=15/\b / 2 ^ i.toNat % 2=1)
def bz (l:aA) (a:Int):Bool:=bS l&&decide (16*l.Page<=a/\a<=16*l.Page+l.Size - 1)
def csz (k:Int):Int:=if 0<=k/\k<=3 then 2 ^ k.toNat else 0
def gU (s:au) (a:Int):Int × Int:=if cy s a then((a - 16*s.Page) / csz s.Class,(a - 16*s.Page) % csz s.Class) else(-1,-1)
def oE (i:Nat) (s:au) (a:Int):iy:=⟨if aY s.Bits ((a - 16*s.Page) / csz s.Class) then 1 else 2,i,(a - 16*s.Page) / csz s.Class,(a - 16*s.Page) % csz s.Class⟩
def denotes (sp:List au) (la:List aA) (a:Int):iy:=
 match sp.findIdx? (cy · a) with
 | some i=>oE i (nth sp i) a
 | none=>match la.findIdx? (bz · a) with
  | some i=>⟨3,i,0,a - 16*(nth la i).Page⟩
  | none=>⟨0,0,0,0⟩
theorem tO {α:Type} {pr:α->Bool} {xs:List α} {i:Nat} {y:α} (hy:xs[i]? = some y) (hp:pr y=true) (ha:∀ (j:Nat) (z:α),j<i->xs[j]? = some z->pr z=false):xs.findIdx? pr=some i:=by
 obtain⟨hi,rfl⟩:=R1.1 hy;exact List.findIdx?_eq_some_iff_getElem.2 ⟨hi,hp,fun j hj=>by
   have:=ha j _ hj (Q1 (by omega));simp[this]⟩
theorem u5 {α:Type} {pr:α->Bool} {xs:List α} {i:Nat} (hi:xs.length<=i) (ha:∀ (j:Nat) (z:α),j<i->xs[j]? = some z->pr z=false):xs.findIdx? pr=none:=
 List.findIdx?_eq_none_iff.2 fun z hz=>by
  obtain⟨j,hj⟩:=List.mem_iff_getElem?.1 hz;exact ha j z (by have:=(R1.1 hj).1;omega) hj
theorem dl {α:Type} {pr:α->Bool} {xs:List α} {i:Nat} {y:α} (hy:xs[i]? = some y) (hp:pr y=false) (ha:∀ (j:Nat) (z:α),j<i->xs[j]? = some z->pr z=false):∀ (j:Nat) (z:α),j<i+1->xs[j]? = some z->pr z=false:=by
 intro j z hj hz;rcases Nat.lt_or_ge j i with h1|h1
 ·exact ha j z h1 hz
 ·obtain rfl:j=i:=by omega
  rw[hy]at hz;cases hz;exact hp
def dw {α:Type} (pr:α->Bool) (xs:List α):Int:=match xs.findIdx? pr with|some i=>(i:Nat)|none=>-1
theorem dR {α:Type} {pr:α->Bool} {xs:List α} {i:Nat} {y:α} (hy:xs[i]? = some y) (hp:pr y=true) (ha:∀ (j:Nat) (z:α),j<i->xs[j]? = some z->pr z=false):dw pr xs=(i:Nat):=by
 unfold dw;rw[tO hy hp ha]
theorem gr {α:Type} {pr:α->Bool} {xs:List α} {i:Nat} (hi:xs.length<=i) (ha:∀ (j:Nat) (z:α),j<i->xs[j]? = some z->pr z=false):dw pr xs = -1:=by
 unfold dw;rw[u5 hi ha]
theorem kS {α:Type} (pr:α->Bool) (xs:List α):decide (dw pr xs≥0)=xs.any pr:=by
 unfold dw;cases h:xs.findIdx? pr with
 | none=>
  have:=List.findIdx?_eq_none_iff.1 h;have h2:xs.any pr=false:=by rw[List.any_eq_false];intro y hy;simp[this y hy]
  rw[h2];rfl
 | some i=>
  obtain⟨hi,hp,-⟩:=List.findIdx?_eq_some_iff_getElem.1 h;have h2:xs.any pr=true:=v3.2 ⟨_,List.getElem_mem hi,hp⟩;rw[h2];simp
def meshable (s t:au):Bool:=(bf s&&bf t)&&decide (s.Class=t.Class/\s.Page≠t.Page/\s.Bits.toNat &&& t.Bits.toNat=0)
def lW (n:Int) (p:cS):Bool:=decide (0<=p.To/\p.To<=n - 1/\0<=p.Addr)
def KX (z:Int):Bool:=decide (0<=z)
def gg (m:aH) (i:Nat):Bool:=(nth m.Buffers i).all (lW m.Buffers.length)&&(nth m.Inbox i).all KX
def bo (m:aH):Nat->Int
 | 0=>0
 | i+1=>bo m i+((nth m.Buffers i).length+(nth m.Inbox i).length)
def bC (m:aH):Bool:=(decide (1<=m.Buffers.length/\m.Buffers.length<=4/\m.Inbox.length=m.Buffers.length)&&cH m.Buffers.length (gg m))&&decide (bo m m.Buffers.length<=30)
def aL (m:aH):List Int:=if bC m then(m.Buffers.flatMap fun l=>l.map (·.Addr))++m.Inbox.flatten else []
def dJ (a:Int) (y:aM):Bool:=decide (y.Addr=a)
def js (xs:List aM) (i:Nat):Bool:=decide (0<=(nth xs i).Class/\(nth xs i).Class<=3/\0<=(nth xs i).Addr/\0<=(nth xs i).Since/\(i=0\/(nth xs (i - 1)).Since<=(nth xs i).Since))&&!(xs.take i).any (dJ (nth xs i).Addr)
def quarCells (xs:List aM):Nat->Int
 | 0=>0
 | i+1=>quarCells xs i+csz (nth xs i).Class
def eN (q:bB):Bool:=cH q.Lst.length (js q.Lst)&&decide (0<=q.Room/\q.Room<=500/\quarCells q.Lst q.Lst.length<=q.Room)
def lY (xs:List Int) (i:Nat):Bool:=decide (0<=nth xs i/\nth xs i<=15/\(i=0\/nth xs (i - 1)<nth xs i))
def ew (p:cg):Bool:=cH p.Cells.length (lY p.Cells)&&decide (0<=p.Keep/\p.Keep<=31/\0<=p.Move/\p.Move<=31/\p.Keep≠p.Move)
def iR (j:co):Bool:=ew j.Plan&&decide (0<=j.Phase/\j.Phase<=5/\0<=j.Next/\j.Next<=j.Plan.Cells.length)
def qw (j:co):Bool:=decide (j.Plan.Keep=0/\j.Plan.Move=0/\j.Plan.Cells.length=0/\j.Phase=0/\j.Next=0)
def aS (h:ab) (p:Int):List Int:=if(ar h.Kernel.Machine.Table p).Mode=0 then [] else pagesOn h.Kernel.Machine.Table (ar h.Kernel.Machine.Table p).Frame
def ja (p:Int) (s:au):Bool:=decide (s.Page=p)
def fV (h:ab) (p:Int):Int:=dw (ja p) h.Spans
def aN (n:Int):Int:=if n<1 then -1 else if n<=1 then 0 else if n<=2 then 1 else if n<=4 then 2 else if n<=8 then 3 else -1
set_option maxRecDepth 20000
set_option maxHeartbeats 2000000
theorem aD (n lo hi:Int):ao Tryz.prog 152 false [.val none [I n],.val none [I lo],.val none [I hi]] .one [B (decide (lo<=n/\n<=hi))]:=by
 refine fO 15 [] Tryz.func152 rfl ?_
 repeat'(first|refine gO ?_|(conv=>whnf);first|with_reducible refine Bf.D (fun hq=>?_) (fun hq=>?_))
 all_goals exact R0 (fun z=>[B z]) (by simp;try omega)
theorem aJ (n lo hi:Int):ao Tryz.prog 76 false [.val none [I n],.val none [I lo],.val none [I hi]] .one [B (decide (lo<=n/\n<=hi))]:=by
 refine fO 15 [] Tryz.func76 rfl ?_
 repeat'(first|refine gO ?_|(conv=>whnf);first|with_reducible refine Bf.D (fun hq=>?_) (fun hq=>?_))
 all_goals exact R0 (fun z=>[B z]) (by simp;try omega)
theorem eK (k:Int):ao Tryz.prog 167 false [.val none [I k]] .one [B (decide (0<=k/\k<=3))]:=by
 refine fO 5 [] Tryz.func167 rfl ?_
 repeat'(first|refine gO ?_|(conv=>whnf);first|refine Cl.mk (aJ k 0 3) ?_)
 rfl
theorem eA (k:Int):ao Tryz.prog 89 false [.val none [I k]] .one [I (csz k)]:=by
 by_cases hk:0<=k/\k<=3
 ·obtain rfl|rfl|rfl|rfl:k=0\/k=1\/k=2\/k=3:=by omega
  all_goals
   refine fO 8 [] Tryz.func89 rfl ?_
   repeat'(first|refine gD ?_|(conv=>whnf);first|with_reducible refine Bf.D (fun hq=>?_) (fun hq=>?_)|refine Cl.mk (eK _) ?_|refine Cd.mk (by decide) ?_|refine Wr.mk rfl ?_)
   exact R0 (fun z=>[I z]) (by decide)
 ·refine fO 8 [] Tryz.func89 rfl ?_
  repeat'(first|refine gD ?_|(conv=>whnf);first|with_reducible refine Bf.D (fun hq=>?_) (fun hq=>?_)|refine Cl.mk (eK _) ?_)
  exact R0 (fun z=>[I z]) (by unfold csz;rw[if_neg hk])
theorem dv (k:Int):ao Tryz.prog 274 false [.val none [I k]] .one [I (csz k)]:=by
 by_cases hk:0<=k/\k<=3
 ·obtain rfl|rfl|rfl|rfl:k=0\/k=1\/k=2\/k=3:=by omega
  all_goals
   refine fO 9 [] Tryz.func274 rfl ?_
   repeat'(first|refine gD ?_|(conv=>whnf);first|with_reducible refine Bf.D (fun hq=>?_) (fun hq=>?_)|refine Cl.mk (aD _ 0 3) ?_|refine Cd.mk (by decide) ?_|refine Wr.mk rfl ?_)
   exact R0 (fun z=>[I z]) (by decide)
 ·refine fO 9 [] Tryz.func274 rfl ?_
  repeat'(first|refine gD ?_|(conv=>whnf);first|with_reducible refine Bf.D (fun hq=>?_) (fun hq=>?_)|refine Cl.mk (aD _ 0 3) ?_)
  exact R0 (fun z=>[I z]) (by unfold csz;rw[if_neg hk])
theorem kW (xs:List Int) (a:Int) (hl:xs.length<=9223372036854775807):ao Tryz.prog 268 false [.val none (aF .imm xs),.val none [I a]] .one [B (decide (a∈xs))]:=by
 refine fO 18 [] Tryz.func268 rfl ?_
 repeat'(first|refine gO ?_|fail)
 (conv=>whnf)
 refine Lp.mk (ι:=Nat) (fun i=>[(0,.hold .one (aF .imm xs)),(1,.hold .one [I a]),(5,.hold .one [I (i:Nat)])]) (fun i=>i<=xs.length/\a∉xs.take i) (fun i=>xs.length - i) 0 ?_ ⟨Q0 _,by simp⟩ fun i hi=>?_
 ·exact wB
 ·obtain⟨hi,hn⟩:=hi
  by_cases hlt:i<xs.length
  ·obtain⟨y,hy⟩ : ∃ y,xs[i]? = some y:=⟨_,Q1 hlt⟩
   repeat'(first|refine gD ?_|(conv=>whnf);first|with_reducible (first|refine Ix.nat (aa hy) ?_|refine Bf.E (fun hq=>?_) (fun hq=>?_)))
   ·exact R0 (fun z=>[B z]) (by symm;simp;rw[<-‹y=a›];exact O1 hy)
   ·(conv=>whnf)
    refine Nx.mk (i+1) ⟨by omega,?_⟩ (by omega) ?_
    ·rw[List.take_add_one,hy]
     simp only[Option.toList_some,C2,X0,not_or];exact⟨hn,fun e=>‹y≠a› e.symm⟩
    ·exact wB
  ·repeat'(first|refine gD ?_|fail)
   rw[List.take_of_length_le (by omega)]at hn;exact R0 (fun z=>[B z]) (by symm;simpa using hn)
set_option maxHeartbeats 4000000
def good (k:Int) (s:List Int) (a:Int):Prop:=0<=a/\a<=511/\a.tmod (csz k)=0/\a∉s
instance (k:Int) (s:List Int) (a:Int):Decidable (good k s a):=by unfold good;exact inferInstance
def pP (k:Int):List Int->List Int->Option (List Int)
 | s,[]=>some s
 | s,a::l=>if good k s a then pP k (s++[a]) l else none
def dO (k:Nat) (s l:List Int):Option (List Int):=if l.length<=8/\k<=3 then pP k s l else none
def fC:Nat->List Int->List (List Int)->Option (List Int)
 | _,s,[]=>some s
 | k,s,l::ls=>(dO k s l).bind fun s'=>fC (k+1) s' ls
def bn (c:aC):Bool:=decide (c.Lists.length=4)&&(fC 0 [] c.Lists).isSome
theorem pC (k:Int):∀ (a s b:List Int),pP k s (a++b)=(pP k s a).bind fun s'=>pP k s' b
 | [],s,b=>rfl
 | x::a,s,b=>by
  simp only[List.cons_append,pP];split
  ·exact pC k a _ b
  ·rfl
theorem mM:∀ (a:List (List Int)) (k:Nat) (s:List Int) (b:List (List Int)),fC k s (a++b)=(fC k s a).bind fun s'=>fC (k+a.length) s' b
 | [],k,s,b=>rfl
 | l::a,k,s,b=>by
  simp only[List.cons_append,fC,Option.bind_assoc,List.length_cons]
  congr 1;funext s'
  rw[mM a (k+1) s' b,show k+1+a.length=k+(a.length+1) by omega]
theorem FA {k:Int} {l s0 s:List Int} {j:Nat} {a:Int} (hj:l[j]? = some a) (h:pP k s0 (l.take j)=some s) (hg:good k s a):pP k s0 (l.take (j+1))=some (s++[a]):=by
 rw[List.take_add_one,hj,Option.toList_some,pC,h];simp[pP,hg]
theorem Jl {k:Nat} {l s0 s:List Int} {j:Nat} {a:Int} (hj:l[j]? = some a) (h:pP k s0 (l.take j)=some s) (hg:¬good k s a):dO k s0 l=none:=by
 unfold dO;split
 ·have:l=l.take j++(a::l.drop (j+1)):=by
   obtain⟨hjl,rfl⟩:=R1.1 hj;rw[<-List.drop_eq_getElem_cons hjl,List.take_append_drop]
  rw[this,pC,h];simp[pP,hg]
 ·rfl
theorem zF {k:Int} : ∀ {l s s':List Int},pP k s l=some s'->s'.length=s.length+l.length
 | [],s,s',h=>by simp only[pP,T0]at h;subst h;simp
 | a::l,s,s',h=>by
  simp only[pP]at h;split at h
  ·have:=zF h;simp at this |-;omega
  ·cases h
theorem sg {ls:List (List Int)} {i:Nat} {l s:List Int} (hi:ls[i]? = some l) (h:fC 0 [] (ls.take i)=some s):fC 0 [] (ls.take (i+1))=dO i s l:=by
 have hl:=(R1.1 hi).1;rw[List.take_add_one,hi,Option.toList_some,mM,h];simp only[Option.bind_some,fC,Nat.zero_add,C1,Nat.min_eq_left (Nat.le_of_lt hl)];cases dO i s l<;>rfl
theorem jN {c:aC} {i:Nat} {l s:List Int} (hi:c.Lists[i]? = some l) (h:fC 0 [] (c.Lists.take i)=some s) (hn:dO i s l=none):bn c=false:=by
 have h1:=sg hi h;rw[hn]at h1;have h2:fC 0 [] c.Lists=none:=by
  rw[<-List.take_append_drop (i+1) c.Lists,mM,h1];rfl
 unfold bn;rw[h2];simp
theorem Dg:∀ {ls:List (List Int)} {k:Nat} {s s':List Int},fC k s ls=some s'->s'.length<=s.length+8*ls.length
 | [],k,s,s',h=>by simp only[fC,T0]at h;subst h;simp
 | l::ls,k,s,s',h=>by
  simp only[fC]at h;unfold dO at h;split at h
  ·cases ho:pP k s l with
   | none=>rw[ho]at h;cases h
   | some s2=>
    rw[ho]at h;have h1:=zF ho;have h2:=Dg (show fC (k+1) s2 ls=some s' from h);simp only[List.length_cons];omega
  ·cases h
theorem HH {i:Nat} (h:i<=3):csz (i:Int)≠0:=by
 obtain rfl|rfl|rfl|rfl:i=0\/i=1\/i=2\/i=3:=by omega
 all_goals decide
theorem cE {l:List Int} : ∀ r∈l.map (rI .own),r.length=1:=by
 intro r hr;obtain⟨z,-,rfl⟩:=P3.1 hr;rfl
theorem mq (c:aC) (hs:aC.sml c):ao Tryz.prog 208 false [.val (some 1) (aC.enc .imm c)] .one [B (bn c)]:=by
 have hl:=hs.1;refine fO 60 [] Tryz.func208 rfl ?_
 repeat'(first|refine gO ?_|(conv=>whnf);first|with_reducible refine Bf.N (fun hq=>?_) (fun hq=>?_))
 ·exact R0 (fun z=>[B z]) (by symm;unfold bn;rw[P0 (by omega)];rfl)
 have h4:c.Lists.length=4:=by omega
 (conv=>whnf)
 refine Lp.mk (ι:=Nat × List Int) (fun i=>[(1,.hold .box (aC.enc .imm c)),(3,.hold .one (aF .own i.2)),(4,.hold .one [I (i.1:Nat)])]) (fun i=>i.1<=4/\fC 0 [] (c.Lists.take i.1)=some i.2) (fun i=>4 - i.1) (0,[]) ?_ ⟨Q0 _,rfl⟩ fun i hi=>?_
 ·exact wB
 ·obtain⟨i,s⟩:=i
  obtain⟨hi,hok⟩:=hi;simp only at hi hok |-;have hsl:=Dg hok;rw[C1]at hsl;simp only[List.length_nil]at hsl;by_cases hlt:i<4
  ·obtain⟨l,hli⟩ : ∃ l,c.Lists[i]? = some l:=⟨_,Q1 (by omega)⟩
   have hll:l.length<=1048576:=hs.2 l (O1 hli)
   repeat'(first|refine gD ?_|(conv=>whnf);first|with_reducible (first|refine Ix.nat (aa hli) ?_|refine Bf.D (fun hq=>?_) (fun hq=>?_)))
   ·exact R0 (fun z=>[B z]) (jN hli hok (by unfold dO;rw[if_neg (by omega)])).symm
   have hl8:l.length<=8:=by omega
   (conv=>whnf)
   refine Lp.mk (ι:=Nat × List Int) (fun j=>[(1,.hold .box (aC.enc .imm c)),(3,.hold .one (aF .own j.2)),(4,.hold .one [I (i:Nat)]),(5,.hold .one [I (j.1:Nat)])]) (fun j=>j.1<=l.length/\pP i s (l.take j.1)=some j.2) (fun j=>l.length - j.1) (0,s) ?_ ⟨Q0 _,rfl⟩ fun j hj=>?_
   ·exact wB
   ·obtain⟨j,s2⟩:=j
    obtain⟨hj,hok2⟩:=hj;simp only at hj hok2 |-;have hsl2:=zF hok2;rw[C1]at hsl2;by_cases hjl:j<l.length
    ·obtain⟨y,hy⟩ : ∃ y,l[j]? = some y:=⟨_,Q1 hjl⟩
     repeat'(first|refine gD ?_|(conv=>whnf);first|with_reducible (first|refine Ix.nat (aa hli) ?_|refine Ix.nat (aa hy) ?_|refine Bf.D (fun hq=>?_) (fun hq=>?_)|refine Bf.N (fun hq=>?_) (fun hq=>?_))|refine Cl.mk (aD y 0 511) ?_|refine Cl.mk (dv (i:Nat)) ?_|refine Cd.mk (HH (by omega)) ?_|refine Ev.mk rfl ?_|refine Cl.eq (kW s2 y (by omega)) ⟨⟨rfl,dZ _⟩,⟨rfl,rfl⟩,trivial⟩ ?_|refine Ap.mk cE (fun r hr=>by rw[X0.1 hr];rfl) (by simp[aW,d5]) (by simp;omega) (by simp only[U0];exact wK (by simp;omega) (by decide)) rfl ?_)
     all_goals first
      | exact R0 (fun z=>[B z]) (jN hli hok (Jl hy hok2 fun⟨g1,g2,g3,g4⟩=>by first|contradiction|omega)).symm
      | ((conv=>whnf)
         refine Nx.mk (j+1,s2++[y]) ⟨(by simp only;omega),FA hy hok2 ⟨(by omega),(by omega),(by assumption),(by assumption)⟩⟩ (by simp only;omega) ?_
         (repeat'(first|exact trivial|rfl|exact And.intro rfl (And.intro (R0 (C.s d3.own) (by simp[rI])) trivial)|refine And.intro ?_ ?_)))
    ·repeat'(first|refine gD ?_|(conv=>whnf);first|with_reducible refine Ix.nat (aa hli) ?_)
     (conv=>whnf)
     rw[List.take_of_length_le (by omega)]at hok2;refine Nx.mk (i+1,s2) ⟨(by simp only;omega),(by rw[sg hli hok];unfold dO;rw[if_pos ⟨hl8,by omega⟩];exact hok2)⟩ (by simp only;omega) ?_;exact wB
  ·repeat'(first|refine gD ?_|fail)
   rw[List.take_of_length_le (by omega)]at hok;exact R0 (fun z=>[B z]) (by symm;unfold bn;rw[hok,O0 h4];rfl)
def eJ (s:List Int):List (Int × Value):=s.map fun a=>(a,.bool true)
theorem lA (a:Int):∀ (s:List Int),mlook (eJ s) a (.bool false)=.bool (decide (a∈s))
 | []=>by simp[eJ,mlook]
 | x::s=>by
  have ih:=lA a s;simp only[eJ,List.map_cons,mlook]at ih |-;by_cases h:x=a
  ·rw[if_pos h];simp[h]
  ·rw[if_neg h,ih]
   congr 1
   simp[show ¬a=x from fun e=>h e.symm]
theorem ro {a:Int} : ∀ {s:List Int},a∉s->eJ (s++[a])=mput (eJ s) a (.bool true)
 | [],_=>rfl
 | x::s,h=>by
  simp only[List.mem_cons,not_or]at h;have ih:=ro h.2;simp only[eJ,List.cons_append,List.map_cons,mput]at ih |-;rw[if_neg fun e=>h.1 e.symm,ih]
theorem zn (c:aC) (hs:aC.sml c):ao Tryz.prog 72 false [.val (some 1) (aC.enc .imm c)] .one [B (bn c)]:=by
 have hl:=hs.1;refine fO 54 [] Tryz.func72 rfl ?_
 repeat'(first|refine gO ?_|fail)
 (conv=>whnf)
 refine Lp.mk (ι:=Nat × List Int) (fun i=>[(1,.hold .box (aC.enc .imm c)),(3,.hold .one [.m (eJ i.2)]),(10,.hold .one (ix .imm c.Lists)),(11,.hold .one [I c.Lists.length]),(12,.hold .one [I (i.1:Nat)])]) (fun i=>i.1<=c.Lists.length/\fC 0 [] (c.Lists.take i.1)=some i.2) (fun i=>c.Lists.length - i.1) (0,[]) ?_ ⟨Q0 _,rfl⟩ fun i hi=>?_
 ·exact wB
 ·obtain⟨i,s⟩:=i
  obtain⟨hi,hok⟩:=hi;simp only at hi hok |-;by_cases hlt:i<c.Lists.length
  ·obtain⟨l,hli⟩ : ∃ l,c.Lists[i]? = some l:=⟨_,Q1 hlt⟩
   have hll:l.length<=1048576:=hs.2 l (O1 hli)
   repeat'(first|refine gD ?_|(conv=>whnf);first|with_reducible (first|refine Ix.nat (aa hli) ?_|refine Bf.D (fun hq=>?_) (fun hq=>?_))|refine Cl.mk (eK (i:Nat)) ?_)
   ·exact R0 (fun z=>[B z]) (jN hli hok (by unfold dO;rw[if_neg (by omega)])).symm
   rotate_left
   ·exact R0 (fun z=>[B z]) (jN hli hok (by unfold dO;rw[if_neg (by omega)])).symm
   have hl8:l.length<=8:=by omega
   have hi3:i<=3:=by omega
   (conv=>whnf)
   refine Lp.mk (ι:=Nat × List Int) (fun j=>[(1,.hold .box (aC.enc .imm c)),(3,.hold .one [.m (eJ j.2)]),(4,.hold .one [I (i:Nat)]),(10,.hold .one (ix .imm c.Lists)),(11,.hold .one [I c.Lists.length]),(12,.hold .one [I (i:Nat)]),(25,.hold .one (aF .imm l)),(26,.hold .one [I l.length]),(27,.hold .one [I (j.1:Nat)])]) (fun j=>j.1<=l.length/\pP i s (l.take j.1)=some j.2) (fun j=>l.length - j.1) (0,s) ?_ ⟨Q0 _,rfl⟩ fun j hj=>?_
   ·exact wB
   ·obtain⟨j,s2⟩:=j
    obtain⟨hj,hok2⟩:=hj;simp only at hj hok2 |-;by_cases hjl:j<l.length
    ·obtain⟨y,hy⟩ : ∃ y,l[j]? = some y:=⟨_,Q1 hjl⟩
     repeat'(first|refine gD ?_|(conv=>whnf);first|with_reducible (first|refine Ix.nat (aa hli) ?_|refine Ix.nat (aa hy) ?_|refine Bf.D (fun hq=>?_) (fun hq=>?_)|refine Bf.N (fun hq=>?_) (fun hq=>?_))|refine Cl.mk (aJ y 0 511) ?_|refine Cl.mk (eA (i:Nat)) ?_|refine Cd.mk (HH (by omega)) ?_|refine Ev.mk rfl ?_|refine Ml.mk (lA y s2) ?_|refine Mu.mk (ro (by assumption)) ?_)
     all_goals first
      | exact R0 (fun z=>[B z]) (jN hli hok (Jl hy hok2 fun⟨g1,g2,g3,g4⟩=>by first|contradiction|omega)).symm
      | ((conv=>whnf)
         refine Nx.mk (j+1,s2++[y]) ⟨(by simp only;omega),FA hy hok2 ⟨(by omega),(by omega),(by assumption),(by assumption)⟩⟩ (by simp only;omega) ?_
         (exact wA))
    ·repeat'(first|refine gD ?_|fail)
     (conv=>whnf)
     rw[List.take_of_length_le (by omega)]at hok2;refine Nx.mk (i+1,s2) ⟨(by simp only;omega),(by rw[sg hli hok];unfold dO;rw[if_pos ⟨hl8,hi3⟩];exact hok2)⟩ (by simp only;omega) ?_;exact wB
  ·repeat'(first|refine gD ?_|fail)
   rw[List.take_of_length_le (by omega)]at hok;have h4:((c.Lists.length:Int) == 4)=decide (c.Lists.length=4):=by
    by_cases h4:c.Lists.length=4
    ·simp[h4]
    ·rw[P0 h4];simp;omega
   exact R0 (fun z=>[B z]) (h4.trans (by unfold bn;rw[hok];simp))
theorem EZ:∀ {ls:List (List Int)} {k:Nat} {s s':List Int},fC k s ls=some s'->∀ l∈ls,l.length<=8
 | [],k,s,s',h,l,hm=>by simp at hm
 | x::ls,k,s,s',h,l,hm=>by
  simp only[fC]at h;unfold dO at h;split at h
  ·rename_i hc
   rcases List.mem_cons.1 hm with rfl|hm
   ·exact hc.1
   ·cases ho:pP k s x with
    | none=>rw[ho]at h;cases h
    | some s2=>rw[ho]at h;exact EZ (show fC (k+1) s2 ls=some s' from h) l hm
  ·cases h
theorem tc {c:aC} (h:bn c=true):c.Lists.length=4/\∀ l∈c.Lists,l.length<=8:=by
 unfold bn at h;simp only[I0,C0]at h;obtain⟨s,hs⟩:=Option.isSome_iff_exists.1 h.2;exact⟨h.1,EZ hs⟩
theorem oT (f:aQ) (hs:aQ.sml f):ao Tryz.prog 63 false [.val (some 2) (aQ.enc .imm f)] .one [B (cq f)]:=by
 have hl:=hs.1.1;have hu:f.Used.length<=1048576:=hs.2;refine fO 61 [] Tryz.func63 rfl ?_
 repeat'(first|refine gO ?_|(conv=>whnf);first|with_reducible (first|refine Bf.D (fun hq=>?_) (fun hq=>?_)|refine Bf.N (fun hq=>?_) (fun hq=>?_))|refine Cl.mk (aD f.Cells.length 1 32) ?_)
 ·exact R0 (fun z=>[B z]) (by symm;unfold cq;rw[P0 (by omega:¬(f.Used.length=f.Cells.length))];simp)
 rotate_left
 ·exact R0 (fun z=>[B z]) (by symm;unfold cq;rw[P0 (by omega:¬(1<=f.Cells.length/\f.Cells.length<=32))];rfl)
 have h32:1<=f.Cells.length/\f.Cells.length<=32:=by omega
 have huc:f.Used.length=f.Cells.length:=by omega
 (conv=>whnf)
 refine Lp.mk (ι:=Nat) (fun i=>[(1,.hold .box (aQ.enc .imm f)),(3,.hold .one [I (i:Nat)])]) (fun i=>i<=f.Cells.length/\((f.Cells.zip f.Used).take i).all (fun q=>gM q.1 q.2)=true) (fun i=>f.Cells.length - i) 0 ?_ ⟨Q0 _,rfl⟩ fun i hi=>?_
 ·exact wB
 ·obtain⟨hi,ha⟩:=hi
  by_cases hlt:i<f.Cells.length
  ·obtain⟨r,hr⟩ : ∃ r,f.Cells[i]? = some r:=⟨_,Q1 hlt⟩
   obtain⟨u,hu'⟩ : ∃ u,f.Used[i]? = some u:=⟨_,Q1 (by omega)⟩
   repeat'(first|refine gD ?_|(conv=>whnf);first|with_reducible (first|refine Ix.nat (aa hr) ?_|refine Bf.N (fun hq=>?_) (fun hq=>?_)))
   ·exact R0 (fun z=>[B z]) (gP hr hu' (by unfold gM;rw[P0 (by omega)];rfl)).symm
   have hr16:r.length=16:=by omega
   (conv=>whnf)
   refine Lp.mk (ι:=Nat) (fun k=>[(1,.hold .box (aQ.enc .imm f)),(3,.hold .one [I (i:Nat)]),(4,.hold .one [I (k:Nat)])]) (fun k=>k<=16/\(r.take k).all (ir u)=true) (fun k=>16 - k) 0 ?_ ⟨Q0 _,rfl⟩ fun k hk=>?_
   ·exact wB
   ·obtain⟨hk,hak⟩:=hk
    by_cases hk16:k<16
    ·obtain⟨v,hv⟩ : ∃ v,r[k]? = some v:=⟨_,Q1 (by omega)⟩
     cases u with
     | true=>
      repeat'(first|refine gD ?_|(conv=>whnf);first|with_reducible (first|refine Ix.nat (aa hr) ?_|refine Ix.nat (aa hu') ?_|refine Ix.nat (aa hv) ?_|refine Bf.D (fun hq=>?_) (fun hq=>?_)|refine Bf.N (fun hq=>?_) (fun hq=>?_))|refine Cl.mk (aD v 0 999) ?_)
      all_goals first
       | exact R0 (fun z=>[B z]) (gP hr hu' (qf hv (by first|(unfold ir;rw[P0 (by omega)];rfl)|(unfold ir;rw[P0 (p:=v=0) (by omega)];simp)))).symm
       | ((conv=>whnf)
          refine Nx.mk (ι:=Nat) (k+1) ⟨(by omega),cz hv hak (by unfold ir;first|(rw[O0 (by omega)];rfl)|(rw[O0 (p:=0<=v/\v<=999) (by omega),O0 (p:=v=0) (by omega)];rfl))⟩ (by omega) ?_
          (exact wA))
     | false=>
      repeat'(first|refine gD ?_|(conv=>whnf);first|with_reducible (first|refine Ix.nat (aa hr) ?_|refine Ix.nat (aa hu') ?_|refine Ix.nat (aa hv) ?_|refine Bf.D (fun hq=>?_) (fun hq=>?_)|refine Bf.N (fun hq=>?_) (fun hq=>?_))|refine Cl.mk (aD v 0 999) ?_)
      all_goals first
       | exact R0 (fun z=>[B z]) (gP hr hu' (qf hv (by first|(unfold ir;rw[P0 (by omega)];rfl)|(unfold ir;rw[P0 (p:=v=0) (by omega)];simp)))).symm
       | ((conv=>whnf)
          refine Nx.mk (ι:=Nat) (k+1) ⟨(by omega),cz hv hak (by unfold ir;first|(rw[O0 (by omega)];rfl)|(rw[O0 (p:=0<=v/\v<=999) (by omega),O0 (p:=v=0) (by omega)];rfl))⟩ (by omega) ?_
          (exact wA))
    ·repeat'(first|refine gD ?_|fail)
     (conv=>whnf)
     refine Nx.mk (i+1) ⟨by omega,cz (tN hr hu') ha (by unfold gM;rw[gf (by omega) hak];simp[hr16])⟩ (by omega) ?_;exact wB
  ·repeat'(first|refine gD ?_|fail)
   exact R0 (fun z=>[B z]) (by symm;unfold cq;rw[gf (by rw[List.length_zip];omega) ha];simp[h32,huc])
theorem oZ (f:aQ) (hs:aQ.sml f):ao Tryz.prog 153 false [.val (some 2) (aQ.enc .imm f)] .one [B (cq f)]:=by
 have hl:=hs.1.1;have hu:f.Used.length<=1048576:=hs.2;refine fO 55 [] Tryz.func153 rfl ?_
 repeat'(first|refine gO ?_|(conv=>whnf);first|with_reducible (first|refine Bf.D (fun hq=>?_) (fun hq=>?_)|refine Bf.N (fun hq=>?_) (fun hq=>?_))|refine Cl.mk (aJ f.Cells.length 1 32) ?_)
 ·exact R0 (fun z=>[B z]) (by symm;unfold cq;rw[P0 (by omega:¬(f.Used.length=f.Cells.length))];simp)
 rotate_left
 ·exact R0 (fun z=>[B z]) (by symm;unfold cq;rw[P0 (by omega:¬(1<=f.Cells.length/\f.Cells.length<=32))];rfl)
 have h32:1<=f.Cells.length/\f.Cells.length<=32:=by omega
 have huc:f.Used.length=f.Cells.length:=by omega
 (conv=>whnf)
 refine Lp.mk (ι:=Nat) (fun i=>[(1,.hold .box (aQ.enc .imm f)),(22,.hold .one (ix .imm f.Cells)),(23,.hold .one [I (f.Cells.length)]),(24,.hold .one [I ((i:Nat):Int)])]) (fun i=>i<=f.Cells.length/\((f.Cells.zip f.Used).take i).all (fun q=>gM q.1 q.2)=true) (fun i=>f.Cells.length - i) (0) ?_ (⟨Q0 _,rfl⟩) fun i hi=>?_
 ·exact wB
 obtain⟨hi,ha⟩:=hi;by_cases hlt:i<f.Cells.length
 ·obtain⟨r,hr⟩ : ∃ r,f.Cells[i]? = some r:=⟨_,Q1 hlt⟩
  obtain⟨u,hu'⟩ : ∃ u,f.Used[i]? = some u:=⟨_,Q1 (by omega)⟩
  have hrl:r.length<=1048576:=hs.1.2 r (O1 hr)
  repeat'(first|refine gD ?_|(conv=>whnf);first|with_reducible (first|refine Ix.nat (aa hr) ?_|refine Bf.N (fun hq=>?_) (fun hq=>?_)))
  ·exact R0 (fun z=>[B z]) (gP hr hu' (by unfold gM;rw[P0 (by omega)];rfl)).symm
  have hr16:r.length=16:=by omega
  (conv=>whnf)
  refine Lp.mk (ι:=Nat) (fun k=>[(1,.hold .box (aQ.enc .imm f)),(3,.hold .one [I ((i:Nat):Int)]),(22,.hold .one (ix .imm f.Cells)),(23,.hold .one [I (f.Cells.length)]),(24,.hold .one [I ((i:Nat):Int)]),(32,.hold .one (aF .imm r)),(33,.hold .one [I (r.length)]),(34,.hold .one [I ((k:Nat):Int)])]) (fun k=>k<=r.length/\(r.take k).all (ir u)=true) (fun k=>r.length - k) (0) ?_ (⟨Q0 _,rfl⟩) fun k hk=>?_
  ·exact wB
  obtain⟨hk,hak⟩:=hk;by_cases hk16:k<r.length
  ·obtain⟨v,hv⟩ : ∃ v,r[k]? = some v:=⟨_,Q1 (by omega)⟩
   cases u with
   | true=>
    repeat'(first|refine gD ?_|(conv=>whnf);first|with_reducible (first|refine Ix.nat (aa hr) ?_|refine Ix.nat (aa hu') ?_|refine Ix.nat (aa hv) ?_|refine Bf.D (fun hq=>?_) (fun hq=>?_)|refine Bf.N (fun hq=>?_) (fun hq=>?_))|refine Cl.mk (aJ v 0 999) ?_)
    all_goals first
     | exact R0 (fun z=>[B z]) (gP hr hu' (qf hv (by unfold ir;grind))).symm
     | ((conv=>whnf)
        refine Nx.mk (ι:=Nat) (k+1) ⟨(by omega),cz hv hak (by unfold ir;grind)⟩ (by omega) ?_
        (exact wA))
   | false=>
    repeat'(first|refine gD ?_|(conv=>whnf);first|with_reducible (first|refine Ix.nat (aa hr) ?_|refine Ix.nat (aa hu') ?_|refine Ix.nat (aa hv) ?_|refine Bf.D (fun hq=>?_) (fun hq=>?_)|refine Bf.N (fun hq=>?_) (fun hq=>?_))|refine Cl.mk (aJ v 0 999) ?_)
    all_goals first
     | exact R0 (fun z=>[B z]) (gP hr hu' (qf hv (by unfold ir;grind))).symm
     | ((conv=>whnf)
        refine Nx.mk (ι:=Nat) (k+1) ⟨(by omega),cz hv hak (by unfold ir;grind)⟩ (by omega) ?_
        (exact wA))
  ·repeat'(first|refine gD ?_|fail)
   (conv=>whnf)
   refine Nx.mk (i+1) ⟨by omega,cz (tN hr hu') ha (by unfold gM;rw[gf (by omega) hak];simp[hr16])⟩ (by omega) ?_;exact wB
 ·repeat'(first|refine gD ?_|fail)
  exact R0 (fun z=>[B z]) (by symm;unfold cq;rw[gf (by rw[List.length_zip];omega) ha];simp[h32,huc])
theorem zq (t:aE) (fr:Int) (hs:aE.sml t):ao Tryz.prog 327 false [.val (some 1) (aE.enc .imm t),.val none [I fr]] .one [B (f7 t fr)]:=by
 have hl:=hs.1;refine fO 54 [] Tryz.func327 rfl ?_
 repeat'(first|refine gO ?_|fail)
 (conv=>whnf)
 refine Lp.mk (ι:=Nat) (fun i=>[(1,.hold .one [I (fr)]),(2,.hold .box (aE.enc .imm t)),(5,.hold .one [I ((i:Nat):Int)])]) (fun i=>i<=t.Entries.length/\cH i (fun j=>jQ fr (nth t.Entries j))=true) (fun i=>t.Entries.length - i) 0 ?_ ⟨Q0 _,rfl⟩ fun i hi=>?_
 ·exact wB
 obtain⟨hi,ai⟩:=hi;by_cases li:i<t.Entries.length
 ·have hx:=ah li
  repeat'(first|refine gD ?_|(conv=>whnf);first|with_reducible (first|refine Ix.nat (aa hx) ?_|refine Bf.D (fun hq=>?_) (fun hq=>?_)|refine Bf.N (fun hq=>?_) (fun hq=>?_)|refine Bf.E (fun hq=>?_) (fun hq=>?_))|refine Cl.mk (aD _ 0 2) ?_)
  all_goals first
   | exact R0 (fun z=>[B z]) ((by symm;unfold f7;rw[cb li (P0 (by grind))];rfl))
   | ((conv=>whnf);refine Nx.mk (i+1) ⟨by omega,bJ ai (O0 (by grind))⟩ (by omega) ?_;(exact wB))
 ·repeat'(first|refine gD ?_|(conv=>whnf);first|refine Cl.mk (aD _ 1 32) ?_)
  obtain rfl:i=t.Entries.length:=by omega
  exact R0 (fun z=>[B z]) ((by unfold f7;rw[ai,Bool.true_and];exact decide_eq_decide.2 (by omega)))
theorem yM (t:aE) (fr:Int) (hs:aE.sml t):ao Tryz.prog 236 false [.val (some 1) (aE.enc .imm t),.val none [I fr]] .one [B (f7 t fr)]:=by
 have hl:=hs.1;refine fO 49 [] Tryz.func236 rfl ?_
 repeat'(first|refine gO ?_|fail)
 (conv=>whnf)
 refine Lp.mk (ι:=Nat) (fun i=>[(1,.hold .one [I (fr)]),(2,.hold .box (aE.enc .imm t)),(8,.hold .one (Bq .imm t.Entries)),(9,.hold .one [I (t.Entries.length)]),(10,.hold .one [I ((i:Nat):Int)])]) (fun i=>i<=t.Entries.length/\cH i (fun j=>jQ fr (nth t.Entries j))=true) (fun i=>t.Entries.length - i) 0 ?_ ⟨Q0 _,rfl⟩ fun i hi=>?_
 ·exact wB
 obtain⟨hi,ai⟩:=hi;by_cases li:i<t.Entries.length
 ·have hx:=ah li
  repeat'(first|refine gD ?_|(conv=>whnf);first|with_reducible (first|refine Ix.nat (aa hx) ?_|refine Bf.D (fun hq=>?_) (fun hq=>?_)|refine Bf.N (fun hq=>?_) (fun hq=>?_)|refine Bf.E (fun hq=>?_) (fun hq=>?_))|refine Cl.mk (aJ _ 0 2) ?_)
  all_goals first
   | exact R0 (fun z=>[B z]) ((by symm;unfold f7;rw[cb li (P0 (by grind))];rfl))
   | ((conv=>whnf);refine Nx.mk (i+1) ⟨by omega,bJ ai (O0 (by grind))⟩ (by omega) ?_;(exact wB))
 ·repeat'(first|refine gD ?_|(conv=>whnf);first|refine Cl.mk (aJ _ 1 32) ?_)
  obtain rfl:i=t.Entries.length:=by omega
  exact R0 (fun z=>[B z]) ((by unfold f7;rw[ai,Bool.true_and];exact decide_eq_decide.2 (by omega)))
theorem fZ (t:aE) (f:Int) (hs:aE.sml t):ao Tryz.prog 111 false [.val (some 1) (aE.enc .imm t),.val none [I f]] .one (aF .own (pagesOn t f)):=by
 have hl:=hs.1;refine fO 37 [] Tryz.func111 rfl ?_ (.inr (bK _))
 repeat'(first|refine gO ?_|fail)
 (conv=>whnf)
 refine Lp.mk (ι:=Nat) (fun i=>[(1,.hold .one [I (f)]),(2,.hold .box (aE.enc .imm t)),(5,.hold .one (aF .own (im t f i))),(6,.hold .one [I ((i:Nat):Int)])]) (fun i=>i<=t.Entries.length) (fun i=>t.Entries.length - i) (0) ?_ (Q0 _) fun i hi=>?_
 ·exact wB
 have hpl:=rL t f i;by_cases li:i<t.Entries.length
 ·have hx:=ah li
  repeat'(first|refine gD ?_|(conv=>whnf);first|with_reducible (first|refine Ix.nat (aa hx) ?_|refine Bf.D (fun hq=>?_) (fun hq=>?_)|refine Bf.N (fun hq=>?_) (fun hq=>?_)|refine Bf.E (fun hq=>?_) (fun hq=>?_))|refine Ap.mk cE (fun r hr=>by rw[X0.1 hr];rfl) (by simp[aW,d5]) (by simp;omega) (by simp only[U0];exact wK (by simp;omega) (by decide)) rfl ?_)
  all_goals first
   |(have hon:GR t f i=true:=O0 (by grind)
     (conv=>whnf)
     refine Nx.mk (i+1) (by omega) (by omega) ?_;rw[yr hon]
     (repeat'(first|exact trivial|rfl|exact And.intro rfl (And.intro (R0 (C.s d3.own) (by simp[rI])) trivial)|refine And.intro ?_ ?_)))
   |(have hon:GR t f i=false:=P0 (by grind)
     (conv=>whnf)
     refine Nx.mk (i+1) (by omega) (by omega) ?_;rw[BH hon]
     (exact wA))
 ·repeat'(first|refine gD ?_|fail)
  obtain rfl:i=t.Entries.length:=by omega
  rfl
theorem jh (t:aE) (f:Int) (hs:aE.sml t):ao Tryz.prog 98 false [.val (some 1) (aE.enc .imm t),.val none [I f]] .one (aF .own (pagesOn t f)):=by
 have hl:=hs.1;refine fO 32 [] Tryz.func98 rfl ?_ (.inr (bK _))
 repeat'(first|refine gO ?_|fail)
 (conv=>whnf)
 refine Lp.mk (ι:=Nat) (fun i=>[(1,.hold .one [I (f)]),(5,.hold .one (aF .own (im t f i))),(10,.hold .one (Bq .imm t.Entries)),(11,.hold .one [I (t.Entries.length)]),(12,.hold .one [I ((i:Nat):Int)])]) (fun i=>i<=t.Entries.length) (fun i=>t.Entries.length - i) (0) ?_ (Q0 _) fun i hi=>?_
 ·exact wB
 have hpl:=rL t f i;by_cases li:i<t.Entries.length
 ·have hx:=ah li
  repeat'(first|refine gD ?_|(conv=>whnf);first|with_reducible (first|refine Ix.nat (aa hx) ?_|refine Bf.D (fun hq=>?_) (fun hq=>?_)|refine Bf.N (fun hq=>?_) (fun hq=>?_)|refine Bf.E (fun hq=>?_) (fun hq=>?_))|refine Ap.mk cE (fun r hr=>by rw[X0.1 hr];rfl) (by simp[aW,d5]) (by simp;omega) (by simp only[U0];exact wK (by simp;omega) (by decide)) rfl ?_)
  all_goals first
   |(have hon:GR t f i=true:=O0 (by grind)
     (conv=>whnf)
     refine Nx.mk (i+1) (by omega) (by omega) ?_;rw[yr hon]
     (repeat'(first|exact trivial|rfl|exact And.intro rfl (And.intro (R0 (C.s d3.own) (by simp[rI])) trivial)|refine And.intro ?_ ?_)))
   |(have hon:GR t f i=false:=P0 (by grind)
     (conv=>whnf)
     refine Nx.mk (i+1) (by omega) (by omega) ?_;rw[BH hon]
     (exact wA))
 ·repeat'(first|refine gD ?_|fail)
  obtain rfl:i=t.Entries.length:=by omega
  rfl
theorem cP (t:aE) (p:Int) (hs:aE.sml t):ao Tryz.prog 110 false [.val (some 1) (aE.enc .imm t),.val none [I p]] .agg (bj.enc .own (ar t p)):=by
 have hl:=hs.1;refine fO 18 [] Tryz.func110 rfl ?_ (.inr (bj.enc_fr _));by_cases hp:0<=p/\p<t.Entries.length
 ·have hx:=ah (xs:=t.Entries) (i:=p.toNat) (by omega)
  repeat'(first|refine gD ?_|(conv=>whnf);first|refine Cl.mk (aD _ 0 _) ?_|refine Ix.mk hp.1 (aa hx) ?_)
  all_goals(unfold ar;rw[if_pos hp];rfl)
 ·repeat'(first|refine gD ?_|(conv=>whnf);first|refine Cl.mk (aD _ 0 _) ?_)
  all_goals(unfold ar;rw[if_neg hp];rfl)
theorem jL (t:aE) (p:Int) (hs:aE.sml t):ao Tryz.prog 97 false [.val (some 1) (aE.enc .imm t),.val none [I p]] .agg (bj.enc .own (ar t p)):=by
 have hl:=hs.1;refine fO 18 [] Tryz.func97 rfl ?_ (.inr (bj.enc_fr _));by_cases hp:0<=p/\p<t.Entries.length
 ·have hx:=ah (xs:=t.Entries) (i:=p.toNat) (by omega)
  repeat'(first|refine gD ?_|(conv=>whnf);first|refine Cl.mk (aJ _ 0 _) ?_|refine Ix.mk hp.1 (aa hx) ?_)
  all_goals(unfold ar;rw[if_pos hp];rfl)
 ·repeat'(first|refine gD ?_|(conv=>whnf);first|refine Cl.mk (aJ _ 0 _) ?_)
  all_goals(unfold ar;rw[if_neg hp];rfl)
theorem pI (t:aE) (f:Int):(pagesOn t f).length<=t.Entries.length:=rL ..
theorem nz (m:aP) (hs:aP.sml m):ao Tryz.prog 266 false [.val (some 3) (aP.enc .imm m)] .one [B (cX m)]:=by
 have hu:m.Frames.Used.length<=1048576:=hs.1.2;have hfc:m.Frames.Cells.length<=1048576:=hs.1.1.1;have hf:=oT m.Frames hs.1;have ht:=zq m.Table m.Frames.Cells.length hs.2;cases h1:cq m.Frames with
 | false=>
  rw[h1]at hf;refine fO 39 [(6,13,[26,27,28,29,30,31,32,33,34,35,36,37,38])] Tryz.func266 rfl ?_
  repeat'(first|refine gO ?_|(conv=>whnf);first|refine Cl.mk hf ?_)
  exact R0 (fun z=>[B z]) ((by unfold cX;rw[h1];rfl))
 | true=>
  have hlen:=qu h1;rw[h1]at hf;cases h2:f7 m.Table m.Frames.Used.length with
  | false=>
   rw[show(m.Frames.Cells.length:Int)=m.Frames.Used.length by omega,h2]at ht;refine fO 39 [(6,13,[26,27,28,29,30,31,32,33,34,35,36,37,38])] Tryz.func266 rfl ?_
   repeat'(first|refine gO ?_|(conv=>whnf);first|refine Cl.mk hf ?_|refine Cl.mk ((show(m.Frames.Cells.length:Int)=m.Frames.Used.length by omega) ▸ ht) ?_)
   exact R0 (fun z=>[B z]) ((by unfold cX;rw[h1,h2];rfl))
  | true=>
   rw[show(m.Frames.Cells.length:Int)=m.Frames.Used.length by omega,h2]at ht;refine fO 39 [(6,13,[26,27,28,29,30,31,32,33,34,35,36,37,38])] Tryz.func266 rfl ?_
   repeat'(first|refine gO ?_|(conv=>whnf);first|refine Cl.mk hf ?_|refine Cl.mk ((show(m.Frames.Cells.length:Int)=m.Frames.Used.length by omega) ▸ ht) ?_)
   (conv=>whnf)
   refine Lp.mk (ι:=Nat) (fun i=>[(1,.hold .box (aP.enc .imm m)),(3,.hold .one [I ((i:Nat):Int)])]) (fun i=>i<=m.Frames.Used.length/\cH i (ne m)=true) (fun i=>m.Frames.Used.length - i) 0 ?_ ⟨Q0 _,rfl⟩ fun i hi=>?_
   ·exact wB
   obtain⟨hi,ai⟩:=hi;by_cases li:i<m.Frames.Used.length
   ·have hx:=ah li
    have hpl:=pI m.Table (i:Nat)
    repeat'(first|refine gD ?_|(conv=>whnf);first|with_reducible (first|refine Ix.nat (aa hx) ?_|refine Bf.NB (fun hq=>?_) (fun hq=>?_))|refine Cl.mk (fZ m.Table (i:Nat) hs.2) ?_)
    all_goals first
     | exact R0 (fun z=>[B z]) ((by symm;unfold cX;rw[h1,h2,cb li (by unfold ne;grind)];rfl))
     | ((conv=>whnf);refine Nx.mk (i+1) ⟨by omega,bJ ai (by unfold ne;grind)⟩ (by omega) ?_;(exact wB))
   ·repeat'(first|refine gD ?_|fail)
    obtain rfl:i=m.Frames.Used.length:=by omega
    exact R0 (fun z=>[B z]) ((by unfold cX;rw[h1,h2,ai];rfl))
theorem wt (m:aP) (hs:aP.sml m):ao Tryz.prog 144 false [.val (some 3) (aP.enc .imm m)] .one [B (cX m)]:=by
 have hu:m.Frames.Used.length<=1048576:=hs.1.2;have hf:=oZ m.Frames hs.1;have ht:=yM m.Table m.Frames.Used.length hs.2;cases h1:cq m.Frames with
 | false=>
  rw[h1]at hf;refine fO 37 [] Tryz.func144 rfl ?_
  repeat'(first|refine gO ?_|(conv=>whnf);first|refine Cl.mk hf ?_)
  exact R0 (fun z=>[B z]) ((by unfold cX;rw[h1];rfl))
 | true=>
  rw[h1]at hf;cases h2:f7 m.Table m.Frames.Used.length with
  | false=>
   rw[h2]at ht;refine fO 37 [] Tryz.func144 rfl ?_
   repeat'(first|refine gO ?_|(conv=>whnf);first|refine Cl.mk hf ?_|refine Cl.mk ht ?_)
   exact R0 (fun z=>[B z]) ((by unfold cX;rw[h1,h2];rfl))
  | true=>
   rw[h2]at ht;refine fO 37 [] Tryz.func144 rfl ?_
   repeat'(first|refine gO ?_|(conv=>whnf);first|refine Cl.mk hf ?_|refine Cl.mk ht ?_)
   (conv=>whnf)
   refine Lp.mk (ι:=Nat) (fun i=>[(1,.hold .box (aP.enc .imm m)),(21,.hold .one (w6 .imm m.Frames.Used)),(22,.hold .one [I (m.Frames.Used.length)]),(23,.hold .one [I ((i:Nat):Int)])]) (fun i=>i<=m.Frames.Used.length/\cH i (ne m)=true) (fun i=>m.Frames.Used.length - i) 0 ?_ ⟨Q0 _,rfl⟩ fun i hi=>?_
   ·exact wB
   obtain⟨hi,ai⟩:=hi;by_cases li:i<m.Frames.Used.length
   ·have hx:=ah li
    have hpl:=pI m.Table (i:Nat)
    repeat'(first|refine gD ?_|(conv=>whnf);first|with_reducible (first|refine Ix.nat (aa hx) ?_|refine Bf.NB (fun hq=>?_) (fun hq=>?_))|refine Cl.mk (jh m.Table (i:Nat) hs.2) ?_)
    all_goals first
     | exact R0 (fun z=>[B z]) ((by symm;unfold cX;rw[h1,h2,cb li (by unfold ne;grind)];rfl))
     | ((conv=>whnf);refine Nx.mk (i+1) ⟨by omega,bJ ai (by unfold ne;grind)⟩ (by omega) ?_;(exact wB))
   ·repeat'(first|refine gD ?_|fail)
    obtain rfl:i=m.Frames.Used.length:=by omega
    exact R0 (fun z=>[B z]) ((by unfold cX;rw[h1,h2,ai];rfl))
theorem kJ (k:af) (hs:af.sml k):ao Tryz.prog 201 false [.val (some 5) (af.enc .imm k)] .one [B (a8 k)]:=by
 have hr:k.Refuse.length<=1048576:=hs.2;have hm:=nz k.Machine hs.1;refine fO 31 [] Tryz.func201 rfl ?_
 repeat'(first|refine gO ?_|fail)
 (conv=>whnf)
 refine Lp.mk (ι:=Nat) (fun i=>[(1,.hold .box (af.enc .imm k)),(3,.hold .one [I ((i:Nat):Int)])]) (fun i=>i<=k.Refuse.length/\cH i (fun j=>decide (0<=nth k.Refuse j))=true) (fun i=>k.Refuse.length - i) 0 ?_ ⟨Q0 _,rfl⟩ fun i hi=>?_
 ·exact wB
 obtain⟨hi,ai⟩:=hi;by_cases li:i<k.Refuse.length
 ·have hx:=ah li
  repeat'(first|refine gD ?_|(conv=>whnf);first|with_reducible (first|refine Ix.nat (aa hx) ?_|refine Bf.D (fun hq=>?_) (fun hq=>?_)))
  all_goals first
   | exact R0 (fun z=>[B z]) ((by symm;unfold a8;rw[cb li (P0 (by omega))];rfl))
   | ((conv=>whnf);refine Nx.mk (i+1) ⟨by omega,bJ ai (O0 (by omega))⟩ (by omega) ?_;(exact wB))
 ·obtain rfl:i=k.Refuse.length:=by omega
  cases h1:cX k.Machine with
  | false=>
   rw[h1]at hm
   repeat'(first|refine gD ?_|(conv=>whnf);first|refine Cl.mk hm ?_)
   all_goals exact R0 (fun z=>[B z]) ((by unfold a8;rw[h1];simp))
  | true=>
   rw[h1]at hm
   repeat'(first|refine gD ?_|(conv=>whnf);first|with_reducible refine Bf.D (fun hq=>?_) (fun hq=>?_)|refine Cl.mk hm ?_|refine Cl.mk (aD _ 0 100000) ?_)
   all_goals exact R0 (fun z=>[B z]) ((by unfold a8;rw[h1,ai];simp only[Bool.true_and];first|exact decide_eq_decide.2 (by omega)|(symm;exact P0 (by omega))|(symm;exact O0 (by omega))))
theorem kN (k:af) (hs:af.sml k):ao Tryz.prog 57 false [.val (some 5) (af.enc .imm k)] .one [B (a8 k)]:=by
 have hr:k.Refuse.length<=1048576:=hs.2;have hm:=wt k.Machine hs.1;refine fO 29 [] Tryz.func57 rfl ?_
 repeat'(first|refine gO ?_|fail)
 (conv=>whnf)
 refine Lp.mk (ι:=Nat) (fun i=>[(1,.hold .box (af.enc .imm k)),(6,.hold .one (aF .imm k.Refuse)),(7,.hold .one [I (k.Refuse.length)]),(8,.hold .one [I ((i:Nat):Int)])]) (fun i=>i<=k.Refuse.length/\cH i (fun j=>decide (0<=nth k.Refuse j))=true) (fun i=>k.Refuse.length - i) 0 ?_ ⟨Q0 _,rfl⟩ fun i hi=>?_
 ·exact wB
 obtain⟨hi,ai⟩:=hi;by_cases li:i<k.Refuse.length
 ·have hx:=ah li
  repeat'(first|refine gD ?_|(conv=>whnf);first|with_reducible (first|refine Ix.nat (aa hx) ?_|refine Bf.D (fun hq=>?_) (fun hq=>?_)))
  all_goals first
   | exact R0 (fun z=>[B z]) ((by symm;unfold a8;rw[cb li (P0 (by omega))];rfl))
   | ((conv=>whnf);refine Nx.mk (i+1) ⟨by omega,bJ ai (O0 (by omega))⟩ (by omega) ?_;(exact wB))
 ·obtain rfl:i=k.Refuse.length:=by omega
  repeat'(first|refine gD ?_|(conv=>whnf);first|with_reducible refine Bf.D (fun hq=>?_) (fun hq=>?_)|refine Cl.mk hm ?_|refine Cl.mk (aJ _ 0 100000) ?_)
  all_goals exact R0 (fun z=>[B z]) ((by unfold a8;rw[ai];cases cX k.Machine<;>simp only[Bool.true_and,Bool.false_and]<;>first|rfl|exact decide_eq_decide.2 (by omega)|(symm;exact P0 (by omega))|(symm;exact O0 (by omega))))
theorem vB (pages:Int) (r:a7) (hp:0<=pages/\pages<=1048576):ao Tryz.prog 267 false [.val none [I pages],.val (some 2) (a7.enc .imm r)] .one [B (rangeIn pages r)]:=by
 refine fO 18 [] Tryz.func267 rfl ?_
 repeat'(first|refine gO ?_|(conv=>whnf);first|with_reducible refine Bf.D (fun hq=>?_) (fun hq=>?_)|refine Cl.mk (aD _ 1 _) ?_|refine Cl.mk (aD _ 0 _) ?_)
 all_goals exact R0 (fun z=>[B z]) ((by unfold rangeIn;first|(symm;exact P0 (by omega))|exact decide_eq_decide.2 (by omega)))
theorem EE (pages:Int) (r:a7) (hp:0<=pages/\pages<=1048576):ao Tryz.prog 159 false [.val none [I pages],.val (some 2) (a7.enc .imm r)] .one [B (rangeIn pages r)]:=by
 refine fO 18 [] Tryz.func159 rfl ?_
 repeat'(first|refine gO ?_|(conv=>whnf);first|with_reducible refine Bf.D (fun hq=>?_) (fun hq=>?_)|refine Cl.mk (aJ _ 1 _) ?_|refine Cl.mk (aJ _ 0 _) ?_)
 all_goals exact R0 (fun z=>[B z]) ((by unfold rangeIn;first|(symm;exact P0 (by omega))|exact decide_eq_decide.2 (by omega)))
theorem lX (k:Int):ao Tryz.prog 194 false [.val none [I k]] .one [I (slots k)]:=by
 by_cases hk:0<=k/\k<=3
 ·obtain rfl|rfl|rfl|rfl:k=0\/k=1\/k=2\/k=3:=by omega
  all_goals
   refine fO 9 [] Tryz.func194 rfl ?_
   repeat'(first|refine gD ?_|(conv=>whnf);first|with_reducible refine Bf.D (fun hq=>?_) (fun hq=>?_)|refine Cl.mk (aD _ 0 3) ?_|refine Cd.mk (by decide) ?_|refine Wr.mk rfl ?_|refine Ev.mk rfl ?_)
   exact R0 (fun z=>[I z]) (by decide)
 ·refine fO 9 [] Tryz.func194 rfl ?_
  repeat'(first|refine gD ?_|(conv=>whnf);first|with_reducible refine Bf.D (fun hq=>?_) (fun hq=>?_)|refine Cl.mk (aD _ 0 3) ?_)
  exact R0 (fun z=>[I z]) (by unfold slots;rw[if_neg (by omega),if_neg (by omega),if_neg (by omega),if_neg (by omega)])
theorem gT (k:Int):ao Tryz.prog 172 false [.val none [I k]] .one [I (slots k)]:=by
 by_cases hk:0<=k/\k<=3
 ·obtain rfl|rfl|rfl|rfl:k=0\/k=1\/k=2\/k=3:=by omega
  all_goals
   refine fO 9 [] Tryz.func172 rfl ?_
   repeat'(first|refine gD ?_|(conv=>whnf);first|with_reducible refine Bf.D (fun hq=>?_) (fun hq=>?_)|refine Cl.mk (eK _) ?_|refine Cl.mk (eA _) ?_|refine Cd.mk (by decide) ?_|refine Wr.mk rfl ?_|refine Ev.mk rfl ?_)
   exact R0 (fun z=>[I z]) (by decide)
 ·refine fO 9 [] Tryz.func172 rfl ?_
  repeat'(first|refine gD ?_|(conv=>whnf);first|with_reducible refine Bf.D (fun hq=>?_) (fun hq=>?_)|refine Cl.mk (eK _) ?_)
  exact R0 (fun z=>[I z]) (by unfold slots;rw[if_neg (by omega),if_neg (by omega),if_neg (by omega),if_neg (by omega)])
def JJ (k b:Int):Bool:=decide (0<=k/\k<=3/\0<=b/\b<=lim k)
theorem oH (k b:Int):ao Tryz.prog 193 false [.val none [I (slots k)],.val none [I b]] .one [B (JJ k b)]:=by
 by_cases hk:0<=k/\k<=3
 ·obtain rfl|rfl|rfl|rfl:k=0\/k=1\/k=2\/k=3:=by omega
  all_goals
   first|rw[show slots 0=16 from rfl]|rw[show slots 1=8 from rfl]|rw[show slots 2=4 from rfl]|rw[show slots 3=2 from rfl]
   refine fO 15 [] Tryz.func193 rfl ?_
   repeat'(first|refine gD ?_|(conv=>whnf);first|with_reducible refine Bf.D (fun hq=>?_) (fun hq=>?_)|refine Cl.mk (aD _ 1 16) ?_|refine Cl.mk (aD _ 0 _) ?_|refine Cd.mk (by decide) ?_|refine Wr.mk (show _=(65536:Int) by decide) ?_|refine Wr.mk (show _=(65535:Int) by decide) ?_|refine Wr.mk (show _=(256:Int) by decide) ?_|refine Wr.mk (show _=(255:Int) by decide) ?_|refine Wr.mk (show _=(16:Int) by decide) ?_|refine Wr.mk (show _=(15:Int) by decide) ?_|refine Wr.mk (show _=(4:Int) by decide) ?_|refine Wr.mk (show _=(8:Int) by decide) ?_|refine Wr.mk (show _=(2:Int) by decide) ?_|refine Wr.mk (show _=(3:Int) by decide) ?_)
   all_goals exact R0 (fun z=>[B z]) ((decide_eq_decide.2 (by simp[lim])))
 ·have hz:slots k=0:=by unfold slots;rw[if_neg (by omega),if_neg (by omega),if_neg (by omega),if_neg (by omega)]
  rw[hz];refine fO 15 [] Tryz.func193 rfl ?_
  repeat'(first|refine gD ?_|(conv=>whnf);first|with_reducible refine Bf.D (fun hq=>?_) (fun hq=>?_)|refine Cl.mk (aD _ 1 16) ?_)
  exact R0 (fun z=>[B z]) ((by symm;exact P0 (by omega)))
theorem wL (k b:Int):ao Tryz.prog 244 false [.val none [I (slots k)],.val none [I b]] .one [B (JJ k b)]:=by
 by_cases hk:0<=k/\k<=3
 ·obtain rfl|rfl|rfl|rfl:k=0\/k=1\/k=2\/k=3:=by omega
  all_goals
   first|rw[show slots 0=16 from rfl]|rw[show slots 1=8 from rfl]|rw[show slots 2=4 from rfl]|rw[show slots 3=2 from rfl]
   refine fO 14 [] Tryz.func244 rfl ?_
   repeat'(first|refine gD ?_|(conv=>whnf);first|with_reducible refine Bf.D (fun hq=>?_) (fun hq=>?_)|refine Cl.mk (aJ _ 1 16) ?_|refine Cl.mk (aJ _ 0 _) ?_|refine Cd.mk (by decide) ?_|refine Wr.mk (dS (by decide) (by decide)) ?_)
   all_goals exact R0 (fun z=>[B z]) ((decide_eq_decide.2 (by simp[lim,IntKind.bits])))
 ·have hz:slots k=0:=by unfold slots;rw[if_neg (by omega),if_neg (by omega),if_neg (by omega),if_neg (by omega)]
  rw[hz];refine fO 14 [] Tryz.func244 rfl ?_
  repeat'(first|refine gD ?_|(conv=>whnf);first|with_reducible refine Bf.D (fun hq=>?_) (fun hq=>?_)|refine Cl.mk (aJ _ 1 16) ?_)
  exact R0 (fun z=>[B z]) ((by symm;exact P0 (by omega)))
theorem fD (s:au):ao Tryz.prog 113 false [.val (some 3) (au.enc .imm s)] .one [B (bf s)]:=by
 refine fO 14 [(1,12,[3,4,5,6,7,8,9,10,11,12,13,2])] Tryz.func113 rfl ?_
 repeat'(first|refine gO ?_|(conv=>whnf);first|with_reducible refine Bf.D (fun hq=>?_) (fun hq=>?_)|refine Cl.mk (aD _ 0 31) ?_|refine Cl.mk (lX _) ?_|refine Cl.mk (oH _ _) ?_)
 all_goals exact R0 (fun z=>[B z]) ((by unfold bf;first|(symm;exact P0 (by omega))|exact decide_eq_decide.2 (by omega)))
theorem iS (s:au):ao Tryz.prog 161 false [.val (some 3) (au.enc .imm s)] .one [B (bf s)]:=by
 refine fO 19 [(1,17,[3,4,5,6,7,8,9,10,11,12,13,14,15,16,17,18,2])] Tryz.func161 rfl ?_
 repeat'(first|refine gO ?_|(conv=>whnf);first|with_reducible refine Bf.D (fun hq=>?_) (fun hq=>?_)|refine Cl.mk (aJ _ 0 31) ?_|refine Cl.mk (eK _) ?_|refine Cl.mk (gT _) ?_|refine Cl.mk (wL _ _) ?_)
 all_goals exact R0 (fun z=>[B z]) ((by unfold bf;first|(symm;exact P0 (by omega))|exact decide_eq_decide.2 (by omega)))
section
variable {α:Type} {xs:List α} {p:α->Bool} {i:Nat} {y:α}
theorem Af (h:xs[i]? = some y) (hp:p y=true):xs.any p=true:=v3.2 ⟨y,O1 h,hp⟩
theorem uP (h:xs[i]? = some y) (ha:(xs.take i).any p=false) (hp:p y=false):(xs.take (i+1)).any p=false:=by
 rw[List.take_add_one,h,List.any_append,ha];simp[hp]
theorem Fw (hi:xs.length<=i) (ha:(xs.take i).any p=false):xs.any p=false:=by
 rwa [List.take_of_length_le hi]at ha
theorem f9 [Inhabited α] (h0:0<i) (hi:i<xs.length):xs[((i:Int) - 1).toNat]? = some (nth xs (i - 1)):=by
 rw[show((i:Int) - 1).toNat=i - 1 by omega];exact ah (by omega)
end
theorem uT {pages:Int} {xs:List a7} {i n:Nat} (ha:cH n (f6 pages xs)=true) (hi:i<n):1<=(nth xs i).Len/\(nth xs i).Len<=pages/\0<=(nth xs i).At/\(nth xs i).At<=pages - (nth xs i).Len:=by
 have:=dB ha hi;unfold f6 rangeIn at this;simp only[I0,C0]at this;exact this.1
theorem kA (pages:Int) (xs:List a7) (hp:0<=pages/\pages<=1048576) (hs:fT xs):ao Tryz.prog 202 false [.val none [I pages],.val none (bD .imm xs)] .one [B (bx pages xs)]:=by
 have hl:=hs.1;refine fO 46 [(4,32,[12,13,14,15,16,17,18,19,20,21,22,23,24,25,26,27,28,29,30,31,32,33,34,35,36,37,38,39,40,41,42,43])] Tryz.func202 rfl ?_
 repeat'(first|refine gO ?_|fail)
 (conv=>whnf)
 refine Lp.mk (ι:=Nat) (fun i=>[(0,.hold .one [I (pages)]),(1,.hold .one (bD .imm xs)),(5,.hold .one [I ((i:Nat):Int)])]) (fun i=>i<=xs.length/\cH i (f6 pages xs)=true) (fun i=>xs.length - i) 0 ?_ ⟨Q0 _,rfl⟩ fun i hi=>?_
 ·exact wB
 obtain⟨hi,ai⟩:=hi;by_cases li:i<xs.length
 ·have hx:=ah li
  have hb:0<i->1<=(nth xs (i - 1)).Len/\(nth xs (i - 1)).Len<=pages/\0<=(nth xs (i - 1)).At/\(nth xs (i - 1)).At<=pages - (nth xs (i - 1)).Len:=fun h=>uT ai (by omega)
  cases h1:rangeIn pages (nth xs i) with
  | false=>
   have h2:=vB pages (nth xs i) hp;rw[h1]at h2
   repeat'(first|refine gD ?_|(conv=>whnf);first|with_reducible refine Ix.nat (aa hx) ?_|refine Cl.mk h2 ?_)
   exact R0 (fun z=>[B z]) ((by symm;unfold bx;rw[cb li (by unfold f6;rw[h1];rfl)];rfl))
  | true=>
   have h2:=vB pages (nth xs i) hp;rw[h1]at h2
   repeat'(first|refine gD ?_|(conv=>whnf);first|with_reducible (first|refine Ix.nat (aa hx) ?_|refine Bf.D (fun hq=>?_) (fun hq=>?_))|refine Cl.mk h2 ?_|refine Ix.mk (by omega) (aa (f9 (by omega) li)) ?_)
   all_goals first
    | exact R0 (fun z=>[B z]) ((by symm;unfold bx;rw[cb li (by unfold f6;rw[h1,P0 (by omega)];rfl)];rfl))
    | ((conv=>whnf);refine Nx.mk (i+1) ⟨by omega,bJ ai (by unfold f6;rw[h1,O0 (by omega)];rfl)⟩ (by omega) ?_;(exact wB))
 ·repeat'(first|refine gD ?_|(conv=>whnf);first|refine Cl.mk (aD pages 1 32) ?_)
  obtain rfl:i=xs.length:=by omega
  exact R0 (fun z=>[B z]) ((by unfold bx;rw[ai];rfl))
theorem xb (pages:Int) (xs:List a7) (hp:0<=pages/\pages<=1048576) (hs:fT xs):ao Tryz.prog 67 false [.val none [I pages],.val none (bD .imm xs)] .one [B (bx pages xs)]:=by
 have hl:=hs.1;refine fO 43 [(4,26,[14,15,16,17,18,19,20,21,22,23,24,25,26,27,28,29,30,31,32,33,34,35,36,37,38,39])] Tryz.func67 rfl ?_
 repeat'(first|refine gO ?_|fail)
 (conv=>whnf)
 refine Lp.mk (ι:=Nat) (fun i=>[(0,.hold .one [I (pages)]),(1,.hold .one (bD .imm xs)),(7,.hold .one (bD .imm xs)),(8,.hold .one [I (xs.length)]),(9,.hold .one [I ((i:Nat):Int)])]) (fun i=>i<=xs.length/\cH i (f6 pages xs)=true) (fun i=>xs.length - i) 0 ?_ ⟨Q0 _,rfl⟩ fun i hi=>?_
 ·exact wB
 obtain⟨hi,ai⟩:=hi;by_cases li:i<xs.length
 ·have hx:=ah li
  have hb:0<i->1<=(nth xs (i - 1)).Len/\(nth xs (i - 1)).Len<=pages/\0<=(nth xs (i - 1)).At/\(nth xs (i - 1)).At<=pages - (nth xs (i - 1)).Len:=fun h=>uT ai (by omega)
  have h2:=EE pages (nth xs i) hp;cases h1:rangeIn pages (nth xs i) with
  | false=>
   rw[h1]at h2
   repeat'(first|refine gD ?_|(conv=>whnf);first|with_reducible refine Ix.nat (aa hx) ?_|refine Cl.mk h2 ?_)
   exact R0 (fun z=>[B z]) ((by symm;unfold bx;rw[cb li (by unfold f6;rw[h1];rfl)];rfl))
  | true=>
   rw[h1]at h2
   repeat'(first|refine gD ?_|(conv=>whnf);first|with_reducible (first|refine Ix.nat (aa hx) ?_|refine Bf.D (fun hq=>?_) (fun hq=>?_))|refine Cl.mk h2 ?_|refine Ix.mk (by omega) (aa (f9 (by omega) li)) ?_)
   all_goals first
    | exact R0 (fun z=>[B z]) ((by symm;unfold bx;rw[cb li (by unfold f6;rw[h1,P0 (by omega)];rfl)];rfl))
    | ((conv=>whnf);refine Nx.mk (i+1) ⟨by omega,bJ ai (by unfold f6;rw[h1,O0 (by omega)];rfl)⟩ (by omega) ?_;(exact wB))
 ·repeat'(first|refine gD ?_|(conv=>whnf);first|refine Cl.mk (aJ pages 1 32) ?_)
  obtain rfl:i=xs.length:=by omega
  exact R0 (fun z=>[B z]) ((by unfold bx;rw[ai];rfl))
theorem xk (xs:List a7) (page:Int) (hl:xs.length<=9223372036854775807):ao Tryz.prog 270 false [.val none (bD .imm xs),.val none [I page]] .one [B (xs.any (pN page))]:=by
 refine fO 34 [(4,22,[12,13,14,15,16,17,18,19,20,21,22,23,24,25,26,27,28,29,30,31,32,33])] Tryz.func270 rfl ?_
 repeat'(first|refine gO ?_|fail)
 (conv=>whnf)
 refine Lp.mk (ι:=Nat) (fun i=>[(0,.hold .one (bD .imm xs)),(1,.hold .one [I (page)]),(5,.hold .one [I ((i:Nat):Int)])]) (fun i=>i<=xs.length/\(xs.take i).any (pN page)=false) (fun i=>xs.length - i) (0) ?_ (⟨Q0 _,rfl⟩) fun i hi=>?_
 ·exact wB
 obtain⟨hi,ha⟩:=hi;by_cases li:i<xs.length
 ·have hx:=ah li
  repeat'(first|refine gD ?_|(conv=>whnf);first|with_reducible (first|refine Ix.nat (aa hx) ?_|refine Bf.D (fun hq=>?_) (fun hq=>?_))|refine Wr.mk rfl ?_)
  all_goals first
   | exact R0 (fun z=>[B z]) ((Af hx (by unfold pN;rw[O0 (by assumption),O0 (by assumption)];rfl)).symm)
   | ((conv=>whnf);refine Nx.mk (i+1) ⟨by omega,uP hx ha (by unfold pN;first|(rw[P0 (by assumption:¬(nth xs i).At<=page)];rfl)|(rw[P0 (by assumption:¬page<_)];simp))⟩ (by omega) ?_;(exact wB))
 ·repeat'(first|refine gD ?_|fail)
  exact R0 (fun z=>[B z]) ((Fw (by omega) ha).symm)
theorem tdiv16 {z:Int} (h:0<=z):z.tdiv 16=z / 16:=Int.tdiv_eq_ediv_of_nonneg h
theorem kI (z:Int):ao Tryz.prog 293 false [.val none [I z]] .one [I (eC z)]:=by
 refine fO 10 [] Tryz.func293 rfl ?_;by_cases hz:9<=z/\z<=1000
 ·repeat'(first|refine gD ?_|(conv=>whnf);first|with_reducible refine Bf.D (fun hq=>?_) (fun hq=>?_)|refine Cl.mk (aD z 9 1000) ?_|refine Cd.mk (by decide) ?_|refine Wr.mk ((R0 _ (tdiv16 (by omega))).trans (dS (by omega) (by omega))) ?_)
  all_goals exact R0 (fun z=>[I z]) (by unfold eC;rw[if_pos hz];omega)
 ·repeat'(first|refine gD ?_|(conv=>whnf);first|with_reducible refine Bf.D (fun hq=>?_) (fun hq=>?_)|refine Cl.mk (aD z 9 1000) ?_)
  all_goals exact R0 (fun z=>[I z]) (by unfold eC;rw[if_neg hz])
theorem xf (z:Int):ao Tryz.prog 217 false [.val none [I z]] .one [I (eC z)]:=by
 refine fO 10 [] Tryz.func217 rfl ?_;by_cases hz:9<=z/\z<=1000
 ·repeat'(first|refine gD ?_|(conv=>whnf);first|with_reducible refine Bf.D (fun hq=>?_) (fun hq=>?_)|refine Cl.mk (aJ z 9 1000) ?_|refine Cd.mk (by decide) ?_|refine Wr.mk ((R0 _ (tdiv16 (by omega))).trans (dS (by omega) (by omega))) ?_)
  all_goals exact R0 (fun z=>[I z]) (by unfold eC;rw[if_pos hz];omega)
 ·repeat'(first|refine gD ?_|(conv=>whnf);first|with_reducible refine Bf.D (fun hq=>?_) (fun hq=>?_)|refine Cl.mk (aJ z 9 1000) ?_)
  all_goals exact R0 (fun z=>[I z]) (by unfold eC;rw[if_neg hz])
theorem lQ (l:aA):ao Tryz.prog 269 false [.val (some 3) (aA.enc .imm l)] .one [B (bS l)]:=by
 have h1:=kI l.Size;by_cases hz:9<=l.Size/\l.Size<=1000
 ·rw[show eC l.Size=(l.Size+15) / 16 from if_pos hz]at h1
  refine fO 22 [] Tryz.func269 rfl ?_
  repeat'(first|refine gO ?_|(conv=>whnf);first|with_reducible (first|refine Bf.D (fun hq=>?_) (fun hq=>?_)|refine Bf.E (fun hq=>?_) (fun hq=>?_))|refine Cl.mk h1 ?_|refine Cl.mk (aD _ 0 _) ?_)
  all_goals exact R0 (fun z=>[B z]) ((by unfold bS;first|(symm;exact P0 (by omega))|exact decide_eq_decide.2 (by omega)))
 ·rw[show eC l.Size=0 from if_neg hz]at h1
  refine fO 22 [] Tryz.func269 rfl ?_
  repeat'(first|refine gD ?_|(conv=>whnf);first|with_reducible refine Bf.D (fun hq=>?_) (fun hq=>?_)|refine Cl.mk h1 ?_)
  all_goals exact R0 (fun z=>[B z]) ((by unfold bS;symm;exact P0 (by omega)))
theorem qU (l:aA):ao Tryz.prog 162 false [.val (some 3) (aA.enc .imm l)] .one [B (bS l)]:=by
 have h1:=xf l.Size;by_cases hz:9<=l.Size/\l.Size<=1000
 ·rw[show eC l.Size=(l.Size+15) / 16 from if_pos hz]at h1
  refine fO 22 [(1,20,[3,4,5,6,7,8,9,10,11,12,13,14,15,16,17,18,19,20,21,2])] Tryz.func162 rfl ?_
  repeat'(first|refine gD ?_|(conv=>whnf);first|with_reducible (first|refine Bf.D (fun hq=>?_) (fun hq=>?_)|refine Bf.E (fun hq=>?_) (fun hq=>?_))|refine Cl.mk h1 ?_|refine Cl.mk (aJ _ 9 1000) ?_|refine Cl.mk (aJ _ 0 _) ?_)
  all_goals exact R0 (fun z=>[B z]) ((by unfold bS;first|(symm;exact P0 (by omega))|exact decide_eq_decide.2 (by omega)))
 ·refine fO 22 [(1,20,[3,4,5,6,7,8,9,10,11,12,13,14,15,16,17,18,19,20,21,2])] Tryz.func162 rfl ?_
  repeat'(first|refine gD ?_|(conv=>whnf);first|with_reducible refine Bf.D (fun hq=>?_) (fun hq=>?_)|refine Cl.mk (aJ _ 9 1000) ?_)
  all_goals exact R0 (fun z=>[B z]) ((by unfold bS;symm;exact P0 (by omega)))
theorem lC {z:Int} (h:0<=z/\z<=9223372036854775807):(BitVec.ofInt IntKind.i64.bits z).toNat=z.toNat:=by
 show(BitVec.ofInt 64 z).toNat=z.toNat;rw[BitVec.toNat_ofInt]
 congr 1
 exact Int.emod_eq_of_lt h.1 (by show z<((2 ^ 64:Nat):Int);have:=h.2;norm_cast;omega)
theorem and64 {z1 z2:Int} (h1:0<=z1/\z1<=9223372036854775807) (h2:0<=z2/\z2<=9223372036854775807):IntKind.i64.wrap ((BitVec.ofInt IntKind.i64.bits z1 &&& BitVec.ofInt IntKind.i64.bits z2).toNat:Nat)=((z1.toNat &&& z2.toNat:Nat):Int):=by
 rw[BitVec.toNat_and,lC h1,lC h2];have:z1.toNat &&& z2.toNat<=z1.toNat:=Nat.and_le_left;exact dS (by omega) (by omega)
theorem Eb (k:Int):lim k<=65535:=by
 unfold lim
 (repeat' split)<;>decide
theorem eH {s:au} (h:bf s=true):0<=s.Bits/\s.Bits<=9223372036854775807:=by
 unfold bf at h;simp only[C0]at h;have:=Eb s.Class;omega
theorem kE (x1 x2:au):ao Tryz.prog 40 false [.val (some 3) (au.enc .imm x1),.val (some 3) (au.enc .imm x2)] .one [B (meshable x1 x2)]:=by
 have h1:=fD x1;have h2:=fD x2;cases e1:bf x1<;>rw[e1]at h1<;>cases e2:bf x2<;>rw[e2]at h2
 all_goals
  refine fO 33 [] Tryz.func40 rfl ?_
  repeat'(first|refine gO ?_|(conv=>whnf);first|with_reducible (first|refine Bf.D (fun hq=>?_) (fun hq=>?_)|refine Bf.N (fun hq=>?_) (fun hq=>?_)|refine Bf.E (fun hq=>?_) (fun hq=>?_))|refine Cl.mk h1 ?_|refine Cl.mk h2 ?_|refine Wr.mk (and64 (eH e1) (eH e2)) ?_)
  all_goals exact R0 (fun z=>[B z]) ((by unfold meshable;rw[e1,e2];first|rfl|(symm;exact P0 (by omega))|(rw[V3];simp;omega)))
theorem xo (x1 x2:au):ao Tryz.prog 165 false [.val (some 3) (au.enc .imm x1),.val (some 3) (au.enc .imm x2)] .one [B (meshable x1 x2)]:=by
 have h1:=iS x1;have h2:=iS x2;cases e1:bf x1<;>rw[e1]at h1<;>cases e2:bf x2<;>rw[e2]at h2
 all_goals
  refine fO 33 [] Tryz.func165 rfl ?_
  repeat'(first|refine gO ?_|(conv=>whnf);first|with_reducible (first|refine Bf.D (fun hq=>?_) (fun hq=>?_)|refine Bf.N (fun hq=>?_) (fun hq=>?_)|refine Bf.E (fun hq=>?_) (fun hq=>?_))|refine Cl.mk h1 ?_|refine Cl.mk h2 ?_|refine Wr.mk (and64 (eH e1) (eH e2)) ?_)
  all_goals exact R0 (fun z=>[B z]) ((by unfold meshable;rw[e1,e2];first|rfl|(symm;exact P0 (by omega))|(rw[V3];simp;omega)))
theorem GI (k:Int):ao Tryz.prog 247 false [.val none [I k]] .one [B (decide (0<=k/\k<=15))]:=by
 refine fO 5 [] Tryz.func247 rfl ?_
 repeat'(first|refine gO ?_|(conv=>whnf);first|refine Cl.mk (aJ k 0 15) ?_)
 rfl
theorem sG (p:cg) (hs:cg.sml p):ao Tryz.prog 279 false [.val (some 3) (cg.enc .imm p)] .one [B (ew p)]:=by
 have hl:p.Cells.length<=1048576:=hs;refine fO 51 [(4,25,[11,12,13,14,15,16,17,18,19,20,21,22,23,24,25,26,27,28,29,30,31,32,33,34,35])] Tryz.func279 rfl ?_
 repeat'(first|refine gO ?_|fail)
 (conv=>whnf)
 refine Lp.mk (ι:=Nat) (fun i=>[(1,.hold .box (cg.enc .imm p)),(3,.hold .one [I ((i:Nat):Int)])]) (fun i=>i<=p.Cells.length/\cH i (lY p.Cells)=true) (fun i=>p.Cells.length - i) 0 ?_ ⟨Q0 _,rfl⟩ fun i hi=>?_
 ·exact wB
 obtain⟨hi,ai⟩:=hi;by_cases li:i<p.Cells.length
 ·have hx:=ah li
  repeat'(first|refine gD ?_|(conv=>whnf);first|with_reducible (first|refine Ix.nat (aa hx) ?_|refine Bf.D (fun hq=>?_) (fun hq=>?_))|refine Cl.mk (aD _ 0 15) ?_|refine Ix.mk (by omega) (aa (f9 (by omega) li)) ?_)
  all_goals first
   | exact R0 (fun z=>[B z]) ((by symm;unfold ew;rw[cb li (P0 (by omega))];rfl))
   | ((conv=>whnf);refine Nx.mk (i+1) ⟨by omega,bJ ai (O0 (by omega))⟩ (by omega) ?_;(exact wB))
 ·obtain rfl:i=p.Cells.length:=by omega
  repeat'(first|refine gD ?_|(conv=>whnf);first|with_reducible (first|refine Bf.D (fun hq=>?_) (fun hq=>?_)|refine Bf.NB (fun hq=>?_) (fun hq=>?_)|refine Bf.N (fun hq=>?_) (fun hq=>?_))|refine Cl.mk (aD _ 0 31) ?_)
  all_goals exact R0 (fun z=>[B z]) ((by unfold ew;rw[ai];simp only[Bool.true_and];first|(symm;exact P0 (by omega))|exact decide_eq_decide.2 (by omega)|(rw[V3];simp;omega)))
theorem BA (p:cg) (hs:cg.sml p):ao Tryz.prog 171 false [.val (some 3) (cg.enc .imm p)] .one [B (ew p)]:=by
 have hl:p.Cells.length<=1048576:=hs;refine fO 46 [] Tryz.func171 rfl ?_
 repeat'(first|refine gO ?_|fail)
 (conv=>whnf)
 refine Lp.mk (ι:=Nat) (fun i=>[(1,.hold .box (cg.enc .imm p)),(6,.hold .one (aF .imm p.Cells)),(7,.hold .one [I (p.Cells.length)]),(8,.hold .one [I ((i:Nat):Int)])]) (fun i=>i<=p.Cells.length/\cH i (lY p.Cells)=true) (fun i=>p.Cells.length - i) 0 ?_ ⟨Q0 _,rfl⟩ fun i hi=>?_
 ·exact wB
 obtain⟨hi,ai⟩:=hi;by_cases li:i<p.Cells.length
 ·have hx:=ah li
  repeat'(first|refine gD ?_|(conv=>whnf);first|with_reducible (first|refine Ix.nat (aa hx) ?_|refine Bf.D (fun hq=>?_) (fun hq=>?_))|refine Cl.mk (GI _) ?_|refine Ix.mk (by omega) (aa (f9 (by omega) li)) ?_)
  all_goals first
   | exact R0 (fun z=>[B z]) ((by symm;unfold ew;rw[cb li (P0 (by omega))];rfl))
   | ((conv=>whnf);refine Nx.mk (i+1) ⟨by omega,bJ ai (O0 (by omega))⟩ (by omega) ?_;(exact wB))
 ·obtain rfl:i=p.Cells.length:=by omega
  repeat'(first|refine gD ?_|(conv=>whnf);first|with_reducible (first|refine Bf.D (fun hq=>?_) (fun hq=>?_)|refine Bf.NB (fun hq=>?_) (fun hq=>?_)|refine Bf.N (fun hq=>?_) (fun hq=>?_))|refine Cl.mk (aJ _ 0 31) ?_)
  all_goals exact R0 (fun z=>[B z]) ((by unfold ew;rw[ai];simp only[Bool.true_and];first|(symm;exact P0 (by omega))|exact decide_eq_decide.2 (by omega)|(rw[V3];simp;omega)))
theorem wj (j:co) (hs:co.sml j):ao Tryz.prog 212 false [.val (some 5) (co.enc .imm j)] .one [B (iR j)]:=by
 have hl:j.Plan.Cells.length<=1048576:=hs;have h1:=sG j.Plan hs;cases e1:ew j.Plan<;>rw[e1]at h1
 all_goals
  refine fO 20 [] Tryz.func212 rfl ?_
  repeat'(first|refine gO ?_|(conv=>whnf);first|with_reducible refine Bf.D (fun hq=>?_) (fun hq=>?_)|refine Cl.mk h1 ?_|refine Cl.mk (aD _ 0 5) ?_|refine Cl.mk (aD _ 0 _) ?_)
  all_goals exact R0 (fun z=>[B z]) ((by unfold iR;rw[e1];first|rfl|(symm;exact P0 (by omega))|(rw[V3];simp;omega)))
theorem Ey (j:co) (hs:co.sml j):ao Tryz.prog 77 false [.val (some 5) (co.enc .imm j)] .one [B (iR j)]:=by
 have hl:j.Plan.Cells.length<=1048576:=hs;have h1:=BA j.Plan hs;cases e1:ew j.Plan<;>rw[e1]at h1
 all_goals
  refine fO 20 [] Tryz.func77 rfl ?_
  repeat'(first|refine gO ?_|(conv=>whnf);first|with_reducible refine Bf.D (fun hq=>?_) (fun hq=>?_)|refine Cl.mk h1 ?_|refine Cl.mk (aJ _ 0 5) ?_|refine Cl.mk (aJ _ 0 _) ?_)
  all_goals exact R0 (fun z=>[B z]) ((by unfold iR;rw[e1];first|rfl|(symm;exact P0 (by omega))|(rw[V3];simp;omega)))
theorem jv (l:aA) (k:Nat):lpgs l (k+1)=lpgs l k++[l.Page+(k:Nat)]:=by
 unfold lpgs;rw[List.range_succ,List.map_append];rfl
theorem AJ (l:aA) (k:Nat):(lpgs l k).length=k:=by unfold lpgs;simp
theorem Jf (l:aA) {k n:Nat} (h:k<=n):lpgs l k <+: lpgs l n:=by
 induction n with
 | zero=>
  obtain rfl:k=0:=by omega
  exact List.prefix_refl _
 | succ n ih=>
  rcases Nat.lt_or_ge n k with h1|h1
  ·obtain rfl:k=n+1:=by omega
   exact List.prefix_refl _
  ·rw[jv];exact(ih h1).trans (List.prefix_append ..)
theorem mU (sp:List au) {la:List aA} {i:Nat} {l:aA} (h:la[i]? = some l):pgs sp (la.take (i+1))=pgs sp (la.take i)++lpgs l l.Pages.toNat:=by
 unfold pgs;rw[List.take_add_one,h,List.flatMap_append];simp
theorem Lb (sp:List au) (la:List aA) (i:Nat):pgs sp (la.take i) <+: pgs sp la:=by
 unfold pgs;refine(List.prefix_append_right_inj _).2 ?_
 conv=>rhs;rw[<-List.take_append_drop i la,List.flatMap_append]
 exact List.prefix_append ..
theorem Jc {S all:List Int} {p:Int} (h:(S++[p]) <+: all) (hp:p∈S):decide all.Nodup=false:=by
 refine P0 fun hn=>?_
 have h1:=hn.sublist h.sublist;rw[List.nodup_append]at h1;exact h1.2.2 p hp p (by simp) rfl
theorem jH {S:List Int} {p:Int} (h:S.Nodup) (hp:p∉S):(S++[p]).Nodup:=by
 rw[List.nodup_append];exact⟨h,by simp,fun x hx y hy e=>by simp at hy;subst hy;subst e;exact hp hx⟩
theorem BC {sp:List au} {la:List aA} {i:Nat} {s:au} (h:sp[i]? = some s):((sp.take i).map (·.Page)++[s.Page]) <+: pgs sp la:=by
 have h1:(sp.take i).map (·.Page)++[s.Page]=(sp.take (i+1)).map (·.Page):=by rw[List.take_add_one,h];simp
 rw[h1];refine List.IsPrefix.trans ?_ (List.prefix_append ..);rw[I3];exact List.take_prefix ..
theorem yC {sp:List au} {la:List aA} {i k:Nat} {l:aA} (h:la[i]? = some l) (hk:k<l.Pages.toNat):(pgs sp (la.take i)++lpgs l k++[l.Page+(k:Nat)]) <+: pgs sp la:=by
 refine List.IsPrefix.trans ?_ (Lb sp la (i+1));rw[mU sp h,List.append_assoc,<-jv];exact(List.prefix_append_right_inj _).2 (Jf l hk)
theorem oS {sp:List au} {la:List aA} {i:Nat} {s:au} (h:sp[i]? = some s) (hs:bf s=false):bg sp la=false:=by
 unfold bg;rw[dP h hs];rfl
theorem nP {sp:List au} {la:List aA} {i:Nat} {l:aA} (h:la[i]? = some l) (hs:bS l=false):bg sp la=false:=by
 unfold bg;rw[dP h hs];simp
theorem jm {sp:List au} {la:List aA} {S:List Int} {p:Int} (h:(S++[p]) <+: pgs sp la) (hp:p∈S):bg sp la=false:=by
 unfold bg;rw[Jc h hp];simp
theorem qN {sp:List au} {la:List aA} (h1:sp.all bf=true) (h2:la.all bS=true) (h3:(pgs sp la).Nodup):bg sp la=true:=by
 unfold bg;rw[h1,h2,O0 h3];rfl
theorem aV {l:aA} (h:bS l=true):1<=l.Pages/\l.Pages<=63/\0<=l.Page/\l.Page<=31:=by
 unfold bS at h;simp only[C0]at h;omega
theorem kB (sp:List au) (la:List aA) (hs1:dq sp) (hs2:dt la):ao Tryz.prog 203 false [.val none (ci .imm sp),.val none (bY .imm la)] .one [B (bg sp la)]:=by
 have hl1:=hs1.1;have hl2:=hs2.1;refine fO 79 [] Tryz.func203 rfl ?_
 repeat'(first|refine gO ?_|fail)
 (conv=>whnf)
 refine Lp.mk (ι:=Nat × List Int) (fun i=>[(0,.hold .one (ci .imm sp)),(1,.hold .one (bY .imm la)),(5,.hold .one (aF .own i.2)),(6,.hold .one [I ((i.1:Nat):Int)])]) (fun i=>i.1<=sp.length/\i.2=(sp.take i.1).map (·.Page)/\(sp.take i.1).all bf=true/\i.2.Nodup) (fun i=>sp.length - i.1) ((0,[])) ?_ (⟨Q0 _,rfl,rfl,List.nodup_nil⟩) fun i hi=>?_
 ·exact wB
 obtain⟨i,S⟩:=i;obtain⟨hi,hS,hok,hnd⟩:=hi;simp only at hi hS hok hnd |-;have hSl:S.length=i:=by rw[hS,U0,C1];omega
 by_cases li:i<sp.length
 ·have hx:=ah li
  have h1:=fD (nth sp i);cases e1:bf (nth sp i)<;>rw[e1]at h1
  ·repeat'(first|refine gD ?_|(conv=>whnf);first|with_reducible refine Ix.nat (aa hx) ?_|refine Cl.mk h1 ?_)
   exact R0 (fun z=>[B z]) ((oS hx e1).symm)
  ·repeat'(first|refine gD ?_|(conv=>whnf);first|with_reducible (first|refine Ix.nat (aa hx) ?_|refine Bf.D (fun hq=>?_) (fun hq=>?_))|refine Cl.mk h1 ?_|refine Cl.eq (kW S _ (by omega)) ⟨⟨rfl,dZ _⟩,⟨rfl,rfl⟩,trivial⟩ ?_|refine Ap.mk cE (fun r hr=>by rw[X0.1 hr];rfl) (by simp[aW,d5]) (by simp;omega) (by simp only[U0];exact wK (by simp;omega) (by decide)) rfl ?_)
   all_goals first
    | exact R0 (fun z=>[B z]) ((jm (S:=S) (by rw[hS];exact BC hx) (by assumption)).symm)
    | ((conv=>whnf)
       refine Nx.mk (i+1,S++[(nth sp i).Page]) ⟨(by simp only;omega),(by simp only;rw[hS,List.take_add_one,hx];simp),(cz hx hok e1),jH hnd (by assumption)⟩ (by simp only;omega) ?_
       (repeat'(first|exact trivial|rfl|exact And.intro rfl (And.intro (R0 (C.s d3.own) (by simp[rI])) trivial)|refine And.intro ?_ ?_)))
 ·obtain rfl:i=sp.length:=by omega
  rw[List.take_length]at hok hS
  repeat'(first|refine gD ?_|fail)
  (conv=>whnf)
  refine Lp.mk (ι:=Nat × List Int) (fun i=>[(1,.hold .one (bY .imm la)),(5,.hold .one (aF .own i.2)),(7,.hold .one [I ((i.1:Nat):Int)])]) (fun i=>i.1<=la.length/\i.2=pgs sp (la.take i.1)/\(la.take i.1).all bS=true/\i.2.Nodup/\i.2.length<=1048576+64*i.1) (fun i=>la.length - i.1) ((0,S)) ?_ (⟨Q0 _,by rw[hS];unfold pgs;simp,rfl,hnd,by simp only;omega⟩) fun i hi=>?_
  ·exact wB
  obtain⟨i,S2⟩:=i;obtain⟨hi2,hS2,hok2,hnd2,hb2⟩:=hi;simp only at hi2 hS2 hok2 hnd2 hb2 |-;by_cases li:i<la.length
  ·have hx:=ah li
   have h1:=lQ (nth la i);cases e1:bS (nth la i)<;>rw[e1]at h1
   ·repeat'(first|refine gD ?_|(conv=>whnf);first|with_reducible refine Ix.nat (aa hx) ?_|refine Cl.mk h1 ?_)
    exact R0 (fun z=>[B z]) ((nP hx e1).symm)
   ·have hpg:=aV e1
    repeat'(first|refine gD ?_|(conv=>whnf);first|with_reducible refine Ix.nat (aa hx) ?_|refine Cl.mk h1 ?_)
    (conv=>whnf)
    refine Lp.mk (ι:=Nat × List Int) (fun k=>[(1,.hold .one (bY .imm la)),(5,.hold .one (aF .own k.2)),(7,.hold .one [I ((i:Nat):Int)]),(8,.hold .one [I ((k.1:Nat):Int)])]) (fun k=>k.1<=(nth la i).Pages.toNat/\k.2=S2++lpgs (nth la i) k.1/\k.2.Nodup) (fun k=>(nth la i).Pages.toNat - k.1) ((0,S2)) ?_ (⟨Q0 _,by simp[lpgs],hnd2⟩) fun k hk=>?_
    ·exact wB
    obtain⟨k,S3⟩:=k;obtain⟨hk,hS3,hnd3⟩:=hk;simp only at hk hS3 hnd3 |-;have hl3:S3.length=S2.length+k:=by rw[hS3,P2,AJ]
    by_cases lk:k<(nth la i).Pages.toNat
    ·repeat'(first|refine gD ?_|(conv=>whnf);first|with_reducible (first|refine Ix.nat (aa hx) ?_|refine Bf.D (fun hq=>?_) (fun hq=>?_))|refine Cl.eq (kW S3 _ (by omega)) ⟨⟨rfl,dZ _⟩,⟨rfl,rfl⟩,trivial⟩ ?_|refine Ap.mk cE (fun r hr=>by rw[X0.1 hr];rfl) (by simp[aW,d5]) (by simp;omega) (by show _*8<=_;simp;omega) rfl ?_)
     all_goals first
      | exact R0 (fun z=>[B z]) ((jm (S:=S3) (by rw[hS3,hS2];exact yC hx lk) (by assumption)).symm)
      | ((conv=>whnf)
         refine Nx.mk (k+1,S3++[(nth la i).Page+(k:Nat)]) ⟨(by simp only;omega),(by simp only;rw[hS3,jv,List.append_assoc]),jH hnd3 (by assumption)⟩ (by simp only;omega) ?_
         (repeat'(first|exact trivial|rfl|exact And.intro rfl (And.intro (R0 (C.s d3.own) (by simp[rI])) trivial)|refine And.intro ?_ ?_)))
    ·obtain rfl:k=(nth la i).Pages.toNat:=by omega
     repeat'(first|refine gD ?_|(conv=>whnf);first|with_reducible refine Ix.nat (aa hx) ?_)
     ((conv=>whnf);refine Nx.mk (i+1,S3) ⟨(by simp only;omega),(by simp only;rw[hS3,hS2,<-mU sp hx]),(cz hx hok2 e1),hnd3,(by simp only;omega)⟩ (by simp only;omega) ?_;(exact wB))
  ·obtain rfl:i=la.length:=by omega
   rw[List.take_length]at hok2 hS2
   repeat'(first|refine gD ?_|fail)
   exact R0 (fun z=>[B z]) ((qN hok hok2 (by rw[<-hS2];exact hnd2)).symm)
def ins (S:List Int) (p:Int):List Int:=if p∈S then S else S++[p]
theorem EY {p:Int} : ∀ {S:List Int},p∈S->mput (eJ S) p (.bool true)=eJ S
 | x::S,h=>by
  simp only[eJ,List.map_cons,mput];by_cases hx:x=p
  ·rw[if_pos hx,hx]
  ·rw[if_neg hx]
   have:=EY (S:=S) ((List.mem_cons.1 h).resolve_left fun e=>hx e.symm);simp only[eJ]at this;rw[this]
theorem uD (S:List Int) (p:Int):eJ (ins S p)=mput (eJ S) p (.bool true):=by
 unfold ins;split
 ·rw[EY (by assumption)]
 ·rw[ro (by assumption)]
theorem Ko (S:List Int) (p:Int):aT Tryz.prog 160 false [.val none [I p],.ptr [.m (eJ S)]] [.val none [I p],.ptr [.m (eJ (ins S p))]] .one [B (decide (p∉S))]:=by
 refine fM 12 [] [] [(0,0),(0,0)] Tryz.func160 rfl (fun u q=>?_)
 repeat'(first|refine gO ?_|(conv=>whnf);first|refine Ml.mk (lA p S) ?_|refine Mu.mk (uD S p) ?_)
 refine aR.mk rfl ?_ ?_
 ·exact R0 (fun z=>[B z]) (by simp)
 ·exact wB
theorem oU (sp:List au) (la:List aA) (hs1:dq sp) (hs2:dt la):ao Tryz.prog 68 false [.val none (ci .imm sp),.val none (bY .imm la)] .one [B (bg sp la)]:=by
 have hl1:=hs1.1;have hl2:=hs2.1;refine fP 54 [(160,[0,2])] [] Tryz.func68 rfl ?_
 repeat'(first|refine gO ?_|fail)
 (conv=>whnf)
 refine Lp.mk (ι:=Nat × List Int) (fun i=>[(1,.hold .one (bY .imm la)),(5,.hold .box [.m (eJ i.2)]),(6,.fn 160 [5]),(14,.hold .one (ci .imm sp)),(15,.hold .one [I (sp.length)]),(16,.hold .one [I ((i.1:Nat):Int)])]) (fun i=>i.1<=sp.length/\i.2=(sp.take i.1).map (·.Page)/\(sp.take i.1).all bf=true/\i.2.Nodup) (fun i=>sp.length - i.1) ((0,[])) ?_ (⟨Q0 _,rfl,rfl,List.nodup_nil⟩) fun i hi=>?_
 ·exact wB
 obtain⟨i,S⟩:=i;obtain⟨hi,hS,hok,hnd⟩:=hi;simp only at hi hS hok hnd |-;by_cases li:i<sp.length
 ·have hx:=ah li
  have h1:=iS (nth sp i);cases e1:bf (nth sp i)<;>rw[e1]at h1
  ·repeat'(first|refine gD ?_|(conv=>whnf);first|with_reducible refine Ix.nat (aa hx) ?_|refine Cl.mk h1 ?_)
   exact R0 (fun z=>[B z]) ((oS hx e1).symm)
  ·repeat'(first|refine gD ?_|(conv=>whnf);first|with_reducible (first|refine Ix.nat (aa hx) ?_|refine Bf.D (fun hq=>?_) (fun hq=>?_))|refine Cl.mk h1 ?_|refine cv.mk (Ko S _) (.inl rfl) ?_)
   all_goals first
    | exact R0 (fun z=>[B z]) ((jm (S:=S) (by rw[hS];exact BC hx) (by grind)).symm)
    |(have hnin:(nth sp i).Page∉S:=by assumption
      (conv=>whnf)
      refine Nx.mk (i+1,ins S (nth sp i).Page) ⟨(by simp only;omega),(by simp only;unfold ins;rw[if_neg hnin,hS,List.take_add_one,hx];simp),(cz hx hok e1),(by simp only;unfold ins;rw[if_neg hnin];exact jH hnd hnin)⟩ (by simp only;omega) ?_
      (exact wA))
 ·obtain rfl:i=sp.length:=by omega
  rw[List.take_length]at hok hS
  repeat'(first|refine gD ?_|fail)
  (conv=>whnf)
  refine Lp.mk (ι:=Nat × List Int) (fun i=>[(5,.hold .box [.m (eJ i.2)]),(6,.fn 160 [5]),(31,.hold .one (bY .imm la)),(32,.hold .one [I (la.length)]),(33,.hold .one [I ((i.1:Nat):Int)])]) (fun i=>i.1<=la.length/\i.2=pgs sp (la.take i.1)/\(la.take i.1).all bS=true/\i.2.Nodup) (fun i=>la.length - i.1) ((0,S)) ?_ (⟨Q0 _,by rw[hS];unfold pgs;simp,rfl,hnd⟩) fun i hi=>?_
  ·exact wB
  obtain⟨i,S2⟩:=i;obtain⟨hi2,hS2,hok2,hnd2⟩:=hi;simp only at hi2 hS2 hok2 hnd2 |-;by_cases li:i<la.length
  ·have hx:=ah li
   have h1:=qU (nth la i);cases e1:bS (nth la i)<;>rw[e1]at h1
   ·repeat'(first|refine gD ?_|(conv=>whnf);first|with_reducible refine Ix.nat (aa hx) ?_|refine Cl.mk h1 ?_)
    exact R0 (fun z=>[B z]) ((nP hx e1).symm)
   ·have hpg:=aV e1
    repeat'(first|refine gD ?_|(conv=>whnf);first|with_reducible refine Ix.nat (aa hx) ?_|refine Cl.mk h1 ?_)
    (conv=>whnf)
    refine Lp.mk (ι:=Nat × List Int) (fun k=>[(5,.hold .box [.m (eJ k.2)]),(6,.fn 160 [5]),(10,.hold .box (aA.enc .imm (nth la i))),(11,.hold .one [I ((k.1:Nat):Int)]),(31,.hold .one (bY .imm la)),(32,.hold .one [I (la.length)]),(33,.hold .one [I ((i:Nat):Int)])]) (fun k=>k.1<=(nth la i).Pages.toNat/\k.2=S2++lpgs (nth la i) k.1/\k.2.Nodup) (fun k=>(nth la i).Pages.toNat - k.1) ((0,S2)) ?_ (⟨Q0 _,by simp[lpgs],hnd2⟩) fun k hk=>?_
    ·exact wB
    obtain⟨k,S3⟩:=k;obtain⟨hk,hS3,hnd3⟩:=hk;simp only at hk hS3 hnd3 |-;by_cases lk:k<(nth la i).Pages.toNat
    ·repeat'(first|refine gD ?_|(conv=>whnf);first|with_reducible refine Bf.D (fun hq=>?_) (fun hq=>?_)|refine cv.mk (Ko S3 _) (.inl rfl) ?_)
     all_goals first
      | exact R0 (fun z=>[B z]) ((jm (S:=S3) (by rw[hS3,hS2];exact yC hx lk) (by grind)).symm)
      |(have hnin:(nth la i).Page+(k:Nat)∉S3:=by assumption
        (conv=>whnf)
        refine Nx.mk (k+1,ins S3 ((nth la i).Page+(k:Nat))) ⟨(by simp only;omega),(by simp only;unfold ins;rw[if_neg hnin,hS3,jv,List.append_assoc]),(by simp only;unfold ins;rw[if_neg hnin];exact jH hnd3 hnin)⟩ (by simp only;omega) ?_
        (exact wA))
    ·obtain rfl:k=(nth la i).Pages.toNat:=by omega
     repeat'(first|refine gD ?_|fail)
     ((conv=>whnf);refine Nx.mk (i+1,S3) ⟨(by simp only;omega),(by simp only;rw[hS3,hS2,<-mU sp hx]),(cz hx hok2 e1),hnd3⟩ (by simp only;omega) ?_;(exact wB))
  ·obtain rfl:i=la.length:=by omega
   rw[List.take_length]at hok2 hS2
   repeat'(first|refine gD ?_|fail)
   exact R0 (fun z=>[B z]) ((qN hok hok2 (by rw[<-hS2];exact hnd2)).symm)
theorem aG {s:au} (h:bf s=true):0<=s.Page/\s.Page<=31/\0<=s.Class/\s.Class<=3:=by
 unfold bf at h;simp only[C0]at h;omega
theorem cj {k:Int} (h:0<=k/\k<=3):csz k=1\/csz k=2\/csz k=4\/csz k=8:=by
 obtain rfl|rfl|rfl|rfl:k=0\/k=1\/k=2\/k=3:=by omega
 all_goals decide
theorem kT {x y:Int} (h:0<=x):x.tdiv y=x / y:=Int.tdiv_eq_ediv_of_nonneg h
theorem fH {x y:Int} (h:0<=x):x.tmod y=x % y:=Int.tmod_eq_emod_of_nonneg h
def S2 (p:Int × Int):List C:=[I p.1,I p.2]
theorem yv {x1 x2:Int} {p:Int × Int} (h:(x1,x2)=p):[I x1,I x2]=S2 p:=by subst h;rfl
theorem sO (s:au) (a:Int) (ha:l7 a):ao Tryz.prog 328 false [.val (some 3) (au.enc .imm s),.val none [I a]] (.tup [none,none]) (S2 (gU s a)):=by
 have h1:=fD s;have h2:=dv s.Class;obtain⟨ha1,ha2⟩:=ha;cases e1:bf s<;>rw[e1]at h1
 ·refine fO 33 [(4,12,[23,24,25,26,27,28,29,30,31,32,4,5])] Tryz.func328 rfl ?_ (.inr ⟨trivial,trivial,trivial⟩)
  repeat'(first|refine gO ?_|(conv=>whnf);first|refine Cl.mk h1 ?_)
  exact yv (by unfold gU cy;rw[e1];rfl)
 ·have hc:=aG e1
  have hz:=cj ⟨hc.2.2.1,hc.2.2.2⟩;by_cases hin:16*s.Page<=a/\a<=16*s.Page+15
  ·have h0:0<=a:=by omega
   refine fO 33 [(4,12,[23,24,25,26,27,28,29,30,31,32,4,5])] Tryz.func328 rfl ?_ (.inr ⟨trivial,trivial,trivial⟩)
   repeat'(first|refine gD ?_|(conv=>whnf);first|with_reducible refine Bf.N (fun hq=>?_) (fun hq=>?_)|refine Cl.mk h1 ?_|refine Cl.mk h2 ?_|refine Cd.mk (by decide) ?_|refine Cd.mk (by omega) ?_|refine Wr.mk ((R0 _ (kT h0)).trans (dS (by omega) (by omega))) ?_|refine Ev.mk (fH h0) ?_|refine Wr.mk ((R0 _ (kT (by omega))).trans (dS (by rcases hz with e|e|e|e<;>rw[e]<;>omega) (by rcases hz with e|e|e|e<;>rw[e]<;>omega))) ?_|refine Ev.mk (fH (by omega)) ?_)
   all_goals first
    |(exfalso;omega)
    |exact yv (by unfold gU cy;rw[e1,O0 hin];show _=((a - 16*s.Page) / csz s.Class,(a - 16*s.Page) % csz s.Class);rw[show a % 16=a - 16*s.Page by omega])
  ·refine fO 33 [(4,12,[23,24,25,26,27,28,29,30,31,32,4,5])] Tryz.func328 rfl ?_ (.inr ⟨trivial,trivial,trivial⟩)
   repeat'(first|refine gO ?_|(conv=>whnf);first|with_reducible (first|refine Bf.D (fun hq=>?_) (fun hq=>?_)|refine Bf.N (fun hq=>?_) (fun hq=>?_))|refine Cl.mk h1 ?_|refine Cd.mk (by decide) ?_|refine Wr.mk ((R0 _ (kT (by omega))).trans (dS (by omega) (by omega))) ?_)
   all_goals first
    |exact yv (by unfold gU cy;rw[e1,P0 hin];rfl)
    |(exfalso;omega)
theorem AA (s:au) (a:Int):ao Tryz.prog 182 false [.val (some 3) (au.enc .imm s),.val none [I a]] (.tup [none,none]) (S2 (gU s a)):=by
 have h1:=iS s;have h2:=eA s.Class;cases e1:bf s<;>rw[e1]at h1
 ·refine fO 38 [(4,12,[28,29,30,31,32,33,34,35,36,37,4,5])] Tryz.func182 rfl ?_ (.inr ⟨trivial,trivial,trivial⟩)
  repeat'(first|refine gO ?_|(conv=>whnf);first|refine Cl.mk h1 ?_)
  exact yv (by unfold gU cy;rw[e1];rfl)
 ·have hc:=aG e1
  have hz:=cj ⟨hc.2.2.1,hc.2.2.2⟩;by_cases hin:16*s.Page<=a/\a<=16*s.Page+15
  ·refine fO 38 [(4,12,[28,29,30,31,32,33,34,35,36,37,4,5])] Tryz.func182 rfl ?_ (.inr ⟨trivial,trivial,trivial⟩)
   repeat'(first|refine gD ?_|(conv=>whnf);first|with_reducible refine Bf.D (fun hq=>?_) (fun hq=>?_)|refine Cl.mk h1 ?_|refine Cl.mk h2 ?_|refine Cl.mk (aJ _ _ _) ?_|refine Cd.mk (by omega) ?_|refine Wr.mk ((R0 _ (kT (by omega))).trans (dS (by rcases hz with e|e|e|e<;>rw[e]<;>omega) (by rcases hz with e|e|e|e<;>rw[e]<;>omega))) ?_|refine Ev.mk (fH (by omega)) ?_)
   all_goals exact yv (by unfold gU cy;rw[e1,O0 hin];show _=((a - 16*s.Page) / csz s.Class,(a - 16*s.Page) % csz s.Class);rw[show a - s.Page*16=a - 16*s.Page by omega])
  ·refine fO 38 [(4,12,[28,29,30,31,32,33,34,35,36,37,4,5])] Tryz.func182 rfl ?_ (.inr ⟨trivial,trivial,trivial⟩)
   repeat'(first|refine gD ?_|(conv=>whnf);first|with_reducible refine Bf.D (fun hq=>?_) (fun hq=>?_)|refine Cl.mk h1 ?_|refine Cl.mk (aJ _ _ _) ?_)
   all_goals exact yv (by unfold gU cy;rw[e1,P0 hin];rfl)
theorem om (b i:Int):ao Tryz.prog 260 false [.val none [I b],.val none [I i]] .one [B (decide (0<=b/\0<=i/\i<=15))]:=by
 refine fO 11 [] Tryz.func260 rfl ?_
 repeat'(first|refine gO ?_|(conv=>whnf);first|with_reducible refine Bf.D (fun hq=>?_) (fun hq=>?_)|refine Cl.mk (aD _ 0 15) ?_)
 all_goals exact R0 (fun z=>[B z]) ((by first|(symm;exact P0 (by omega))|exact decide_eq_decide.2 (by omega)))
theorem yy (b i:Int):ao Tryz.prog 248 false [.val none [I b],.val none [I i]] .one [B (decide (0<=b/\0<=i/\i<=15))]:=by
 refine fO 11 [] Tryz.func248 rfl ?_
 repeat'(first|refine gO ?_|(conv=>whnf);first|with_reducible refine Bf.D (fun hq=>?_) (fun hq=>?_)|refine Cl.mk (aJ _ 0 15) ?_)
 all_goals exact R0 (fun z=>[B z]) ((by first|(symm;exact P0 (by omega))|exact decide_eq_decide.2 (by omega)))
theorem K8 {b i:Int} (hb:0<=b/\b<=9223372036854775807) (hi:0<=i/\i<=15):b.fdiv (2 ^ min i.toNat IntKind.i64.bits)=b / 2 ^ i.toNat/\0<=b / 2 ^ i.toNat/\b / 2 ^ i.toNat<=9223372036854775807:=by
 have h1:min i.toNat IntKind.i64.bits=i.toNat:=Nat.min_eq_left (show i.toNat<=64 by omega);rw[h1];have h2:(0:Int)<=2 ^ i.toNat:=Int.pow_nonneg (by decide);refine⟨Int.fdiv_eq_ediv_of_nonneg _ h2,Int.ediv_nonneg hb.1 h2,?_⟩;have:=Int.ediv_le_self (2 ^ i.toNat:Int) hb.1;omega
theorem ur {b i:Int} (hb:0<=b) (hi:0<=i/\i<=15):((((b / 2 ^ i.toNat).toNat &&& (1:Int).toNat:Nat):Int) == 1)=aY b i:=by
 have h2:(0:Int)<=b / 2 ^ i.toNat:=Int.ediv_nonneg hb (Int.pow_nonneg (by decide));have h3:(b / 2 ^ i.toNat).toNat &&& (1:Int).toNat=(b / 2 ^ i.toNat).toNat % 2:=Nat.and_one_is_mod _;rw[h3];unfold aY;generalize b / 2 ^ i.toNat=q at h2 |-;rw[V3,beq_iff_eq,C0];omega
theorem hB (b i:Int) (hb:b<=9223372036854775807):ao Tryz.prog 192 false [.val none [I b],.val none [I i]] .one [B (aY b i)]:=by
 by_cases h:0<=b/\0<=i/\i<=15
 ·obtain⟨s1,s2⟩:=K8 (b:=b) (i:=i) ⟨h.1,hb⟩ h.2
  have hw:IntKind.u64.wrap i=i:=by unfold IntKind.wrap;simp[IntKind.signed,IntKind.bits];omega
  refine fO 16 [] Tryz.func192 rfl ?_
  repeat'(first|refine gD ?_|(conv=>whnf);first|with_reducible refine Bf.D (fun hq=>?_) (fun hq=>?_)|refine Cl.mk (om _ _) ?_|refine Cd.mk (by omega) ?_|refine Wr.mk hw ?_|refine Ev.mk s1 ?_|refine Wr.mk (and64 s2 ⟨by decide,by decide⟩) ?_)
  all_goals exact R0 (fun z=>[B z]) ((ur h.1 h.2))
 ·refine fO 16 [] Tryz.func192 rfl ?_
  repeat'(first|refine gD ?_|(conv=>whnf);first|with_reducible refine Bf.D (fun hq=>?_) (fun hq=>?_)|refine Cl.mk (om _ _) ?_)
  all_goals exact R0 (fun z=>[B z]) ((by unfold aY;symm;exact P0 fun e=>h ⟨e.1,e.2.1,e.2.2.1⟩))
theorem pU (b i:Int) (hb:b<=9223372036854775807):ao Tryz.prog 173 false [.val none [I b],.val none [I i]] .one [B (aY b i)]:=by
 by_cases h:0<=b/\0<=i/\i<=15
 ·obtain⟨s1,s2⟩:=K8 (b:=b) (i:=i) ⟨h.1,hb⟩ h.2
  refine fO 15 [] Tryz.func173 rfl ?_
  repeat'(first|refine gD ?_|(conv=>whnf);first|with_reducible refine Bf.D (fun hq=>?_) (fun hq=>?_)|refine Cl.mk (yy _ _) ?_|refine Cd.mk (by omega) ?_|refine Ev.mk s1 ?_|refine Wr.mk (and64 s2 ⟨by decide,by decide⟩) ?_)
  all_goals exact R0 (fun z=>[B z]) ((ur h.1 h.2))
 ·refine fO 15 [] Tryz.func173 rfl ?_
  repeat'(first|refine gD ?_|(conv=>whnf);first|with_reducible refine Bf.D (fun hq=>?_) (fun hq=>?_)|refine Cl.mk (yy _ _) ?_)
  all_goals exact R0 (fun z=>[B z]) ((by unfold aY;symm;exact P0 fun e=>h ⟨e.1,e.2.1,e.2.2.1⟩))
theorem cw {l:aA} (h:bS l=true):9<=l.Size/\l.Size<=1000/\0<=l.Page/\l.Page<=31:=by
 unfold bS at h;simp only[C0]at h;omega
theorem oJ (l:aA) (a:Int):ao Tryz.prog 329 false [.val (some 3) (aA.enc .imm l),.val none [I a]] .one [B (bz l a)]:=by
 have h1:=lQ l;cases e1:bS l<;>rw[e1]at h1
 ·refine fO 24 [] Tryz.func329 rfl ?_
  repeat'(first|refine gO ?_|(conv=>whnf);first|refine Cl.mk h1 ?_)
  exact R0 (fun z=>[B z]) ((by unfold bz;rw[e1];rfl))
 ·have hf:=cw e1
  refine fO 24 [] Tryz.func329 rfl ?_
  repeat'(first|refine gO ?_|(conv=>whnf);first|with_reducible refine Bf.D (fun hq=>?_) (fun hq=>?_)|refine Cl.mk h1 ?_)
  all_goals exact R0 (fun z=>[B z]) ((by unfold bz;rw[e1,Bool.true_and];first|(symm;exact P0 (by omega))|exact decide_eq_decide.2 (by omega)))
theorem oO (l:aA) (a:Int):ao Tryz.prog 183 false [.val (some 3) (aA.enc .imm l),.val none [I a]] .one [B (bz l a)]:=by
 have h1:=qU l;cases e1:bS l<;>rw[e1]at h1
 ·refine fO 21 [] Tryz.func183 rfl ?_
  repeat'(first|refine gO ?_|(conv=>whnf);first|refine Cl.mk h1 ?_)
  exact R0 (fun z=>[B z]) ((by unfold bz;rw[e1];rfl))
 ·have hf:=cw e1
  refine fO 21 [] Tryz.func183 rfl ?_
  repeat'(first|refine gO ?_|(conv=>whnf);first|with_reducible refine Bf.D (fun hq=>?_) (fun hq=>?_)|refine Cl.mk h1 ?_|refine Cl.mk (aJ _ _ _) ?_)
  all_goals exact R0 (fun z=>[B z]) ((by unfold bz;rw[e1,Bool.true_and];exact decide_eq_decide.2 (by omega)))
theorem rx (l:aA) (a:Int) (h:bz l a=true):ao Tryz.prog 330 false [.val (some 3) (aA.enc .imm l),.val none [I a]] .one [I (a - 16*l.Page)]:=by
 have h1:=oJ l a;rw[h]at h1;unfold bz at h;simp only[I0,C0]at h;have hf:=cw h.1;refine fO 14 [] Tryz.func330 rfl ?_
 repeat'(first|refine gO ?_|(conv=>whnf);first|refine Cl.mk h1 ?_)
 exact R0 (fun z=>[I z]) (by omega)
theorem rO (l:aA) (a:Int) (h:bz l a=true):ao Tryz.prog 184 false [.val (some 3) (aA.enc .imm l),.val none [I a]] .one [I (a - 16*l.Page)]:=by
 have h1:=oO l a;rw[h]at h1;unfold bz at h;simp only[I0,C0]at h;have hf:=cw h.1;refine fO 14 [] Tryz.func184 rfl ?_
 repeat'(first|refine gO ?_|(conv=>whnf);first|refine Cl.mk h1 ?_)
 exact R0 (fun z=>[I z]) (by omega)
theorem oA {m:aH} {i:Nat} (hi:i<m.Buffers.length) (h:gg m i=false):bC m=false:=by
 unfold bC;rw[cb hi h];simp
theorem um {m:aH} (h:¬(1<=m.Buffers.length/\m.Buffers.length<=4/\m.Inbox.length=m.Buffers.length)):bC m=false:=by
 unfold bC;rw[P0 h];rfl
theorem ww {m:aH} (h1:1<=m.Buffers.length/\m.Buffers.length<=4/\m.Inbox.length=m.Buffers.length) (h2:cH m.Buffers.length (gg m)=true):bC m=decide (bo m m.Buffers.length<=30):=by
 unfold bC;rw[O0 h1,h2];rfl
theorem kb (m:aH) (hs:aH.sml m):ao Tryz.prog 206 false [.val (some 2) (aH.enc .imm m)] .one [B (bC m)]:=by
 have hl1:m.Buffers.length<=1048576:=hs.1.1;have hl2:m.Inbox.length<=1048576:=hs.2.1;by_cases hn:1<=m.Buffers.length/\m.Buffers.length<=4/\m.Inbox.length=m.Buffers.length
 ·refine fO 92 [(19,15,[75,76,77,78,79,80,81,82,83,84,85,86,87,88,89])] Tryz.func206 rfl ?_
  repeat'(first|refine gA ?_|(conv=>whnf);first|with_reducible (first|refine Bf.D (fun hq=>?_) (fun hq=>?_)|refine Bf.N (fun hq=>?_) (fun hq=>?_))|refine Cl.mk (aD _ 1 4) ?_)
  (conv=>whnf)
  refine Lp.mk (ι:=Nat) (fun i=>[(1,.hold .box (aH.enc .imm m)),(3,.hold .one [I (m.Buffers.length)]),(4,.hold .one [I (bo m i)]),(5,.hold .one [I ((i:Nat):Int)])]) (fun i=>i<=m.Buffers.length/\cH i (gg m)=true/\0<=bo m i/\bo m i<=2097152*i) (fun i=>m.Buffers.length - i) (0) ?_ (⟨Q0 _,rfl,by simp[bo],by simp[bo]⟩) fun i hi=>?_
  ·exact wB
  obtain⟨hi,ai,s0,s1⟩:=hi;by_cases li:i<m.Buffers.length
  ·have hx:=ah li
   have hy:=ah (xs:=m.Inbox) (i:=i) (by omega);have hb1:(nth m.Buffers i).length<=1048576:=(hs.1.2 _ (am li)).1;have hb2:(nth m.Inbox i).length<=1048576:=hs.2.2 _ (am (by omega))
   repeat'(first|refine gD ?_|fail)
   (conv=>whnf)
   refine Lp.mk (ι:=Nat) (fun k=>[(1,.hold .box (aH.enc .imm m)),(3,.hold .one [I (m.Buffers.length)]),(4,.hold .one [I (bo m i)]),(5,.hold .one [I ((i:Nat):Int)]),(6,.hold .one [I ((k:Nat):Int)])]) (fun k=>k<=(nth m.Buffers i).length/\((nth m.Buffers i).take k).all (lW m.Buffers.length)=true) (fun k=>(nth m.Buffers i).length - k) (0) ?_ (⟨Q0 _,rfl⟩) fun k hk=>?_
   ·exact wB
   obtain⟨hk,ak⟩:=hk;by_cases lk:k<(nth m.Buffers i).length
   ·have hz:=ah lk
    repeat'(first|refine gD ?_|(conv=>whnf);first|with_reducible (first|refine Ix.nat (aa hx) ?_|refine Ix.nat (aa hz) ?_|refine Bf.D (fun hq=>?_) (fun hq=>?_))|refine Cl.mk (aD _ 0 _) ?_)
    all_goals first
     | exact R0 (fun z=>[B z]) ((oA li (by unfold gg;rw[dP hz (by unfold lW;exact P0 (by omega))];rfl)).symm)
     | ((conv=>whnf);refine Nx.mk (k+1) ⟨by omega,cz hz ak (by unfold lW;exact O0 (by omega))⟩ (by omega) ?_;(exact wB))
   ·have ae:=gf (by omega) ak
    repeat'(first|refine gD ?_|(conv=>whnf);first|with_reducible refine Ix.nat (aa hx) ?_)
    (conv=>whnf)
    refine Lp.mk (ι:=Nat) (fun k2=>[(1,.hold .box (aH.enc .imm m)),(3,.hold .one [I (m.Buffers.length)]),(4,.hold .one [I (bo m i)]),(5,.hold .one [I ((i:Nat):Int)]),(8,.hold .one [I ((k2:Nat):Int)])]) (fun k2=>k2<=(nth m.Inbox i).length/\((nth m.Inbox i).take k2).all KX=true) (fun k2=>(nth m.Inbox i).length - k2) (0) ?_ (⟨Q0 _,rfl⟩) fun k2 hk2=>?_
    ·exact wB
    obtain⟨hk2,ak2⟩:=hk2;by_cases lk2:k2<(nth m.Inbox i).length
    ·have hz:=ah lk2
     repeat'(first|refine gD ?_|(conv=>whnf);first|with_reducible (first|refine Ix.nat (aa hy) ?_|refine Ix.nat (aa hz) ?_|refine Bf.D (fun hq=>?_) (fun hq=>?_)))
     all_goals first
      | exact R0 (fun z=>[B z]) ((oA li (by unfold gg;rw[dP hz (by unfold KX;exact P0 (by omega))];simp)).symm)
      | ((conv=>whnf);refine Nx.mk (k2+1) ⟨by omega,cz hz ak2 (by unfold KX;exact O0 (by omega))⟩ (by omega) ?_;(exact wB))
    ·have ae2:=gf (by omega) ak2
     have hsum:bo m (i+1)=bo m i+((nth m.Buffers i).length+(nth m.Inbox i).length):=rfl;have hsum2:bo m (i+1)=bo m i+(nth m.Buffers i).length+(nth m.Inbox i).length:=by rw[hsum];omega
     repeat'(first|refine gD ?_|(conv=>whnf);first|with_reducible (first|refine Ix.nat (aa hx) ?_|refine Ix.nat (aa hy) ?_))
     ((conv=>whnf);refine Nx.mk (i+1) ⟨by omega,bJ ai (by unfold gg;rw[ae,ae2];rfl),by omega,by omega⟩ (by omega) ?_)
     rw[hsum2];exact wB
  ·obtain rfl:i=m.Buffers.length:=by omega
   repeat'(first|refine gD ?_|fail)
   exact R0 (fun z=>[B z]) ((ww hn ai).symm)
 ·refine fO 92 [(19,15,[75,76,77,78,79,80,81,82,83,84,85,86,87,88,89])] Tryz.func206 rfl ?_
  repeat'(first|refine gO ?_|(conv=>whnf);first|with_reducible (first|refine Bf.D (fun hq=>?_) (fun hq=>?_)|refine Bf.N (fun hq=>?_) (fun hq=>?_))|refine Cl.mk (aD _ 1 4) ?_)
  all_goals first
   | exact R0 (fun z=>[B z]) ((um hn).symm)
   |(exfalso;omega)
theorem sC (m:aH) (hs:aH.sml m):ao Tryz.prog 70 false [.val (some 2) (aH.enc .imm m)] .one [B (bC m)]:=by
 have hl1:m.Buffers.length<=1048576:=hs.1.1;have hl2:m.Inbox.length<=1048576:=hs.2.1;by_cases hn:1<=m.Buffers.length/\m.Buffers.length<=4/\m.Inbox.length=m.Buffers.length
 ·refine fO 82 [(20,15,[64,65,66,67,68,69,70,71,72,73,74,75,76,77,78])] Tryz.func70 rfl ?_
  repeat'(first|refine gA ?_|(conv=>whnf);first|with_reducible (first|refine Bf.D (fun hq=>?_) (fun hq=>?_)|refine Bf.N (fun hq=>?_) (fun hq=>?_))|refine Cl.mk (aJ _ 1 4) ?_)
  (conv=>whnf)
  refine Lp.mk (ι:=Nat) (fun i=>[(1,.hold .box (aH.enc .imm m)),(3,.hold .one [I (m.Buffers.length)]),(4,.hold .one [I (bo m i)]),(25,.hold .one [I (m.Buffers.length)]),(26,.hold .one [I ((i:Nat):Int)])]) (fun i=>i<=m.Buffers.length/\cH i (gg m)=true/\0<=bo m i/\bo m i<=2097152*i) (fun i=>m.Buffers.length - i) (0) ?_ (⟨Q0 _,rfl,by simp[bo],by simp[bo]⟩) fun i hi=>?_
  ·exact wB
  obtain⟨hi,ai,s0,s1⟩:=hi;by_cases li:i<m.Buffers.length
  ·have hx:=ah li
   have hy:=ah (xs:=m.Inbox) (i:=i) (by omega);have hb1:(nth m.Buffers i).length<=1048576:=(hs.1.2 _ (am li)).1;have hb2:(nth m.Inbox i).length<=1048576:=hs.2.2 _ (am (by omega))
   repeat'(first|refine gD ?_|(conv=>whnf);first|with_reducible refine Ix.nat (aa hx) ?_)
   (conv=>whnf)
   refine Lp.mk (ι:=Nat) (fun k=>[(1,.hold .box (aH.enc .imm m)),(3,.hold .one [I (m.Buffers.length)]),(4,.hold .one [I (bo m i)]),(5,.hold .one [I ((i:Nat):Int)]),(25,.hold .one [I (m.Buffers.length)]),(26,.hold .one [I ((i:Nat):Int)]),(33,.hold .one (cA .imm (nth m.Buffers i))),(34,.hold .one [I ((nth m.Buffers i).length)]),(35,.hold .one [I ((k:Nat):Int)])]) (fun k=>k<=(nth m.Buffers i).length/\((nth m.Buffers i).take k).all (lW m.Buffers.length)=true) (fun k=>(nth m.Buffers i).length - k) (0) ?_ (⟨Q0 _,rfl⟩) fun k hk=>?_
   ·exact wB
   obtain⟨hk,ak⟩:=hk;by_cases lk:k<(nth m.Buffers i).length
   ·have hz:=ah lk
    repeat'(first|refine gD ?_|(conv=>whnf);first|with_reducible (first|refine Ix.nat (aa hx) ?_|refine Ix.nat (aa hz) ?_|refine Bf.D (fun hq=>?_) (fun hq=>?_))|refine Cl.mk (aJ _ 0 _) ?_)
    all_goals first
     | exact R0 (fun z=>[B z]) ((oA li (by unfold gg;rw[dP hz (by unfold lW;exact P0 (by omega))];rfl)).symm)
     | ((conv=>whnf);refine Nx.mk (k+1) ⟨by omega,cz hz ak (by unfold lW;exact O0 (by omega))⟩ (by omega) ?_;(exact wB))
   ·have ae:=gf (by omega) ak
    repeat'(first|refine gD ?_|(conv=>whnf);first|with_reducible (first|refine Ix.nat (aa hx) ?_|refine Ix.nat (aa hy) ?_))
    (conv=>whnf)
    refine Lp.mk (ι:=Nat) (fun k2=>[(1,.hold .box (aH.enc .imm m)),(3,.hold .one [I (m.Buffers.length)]),(4,.hold .one [I (bo m i)]),(5,.hold .one [I ((i:Nat):Int)]),(25,.hold .one [I (m.Buffers.length)]),(26,.hold .one [I ((i:Nat):Int)]),(55,.hold .one (aF .imm (nth m.Inbox i))),(56,.hold .one [I ((nth m.Inbox i).length)]),(57,.hold .one [I ((k2:Nat):Int)])]) (fun k2=>k2<=(nth m.Inbox i).length/\((nth m.Inbox i).take k2).all KX=true) (fun k2=>(nth m.Inbox i).length - k2) (0) ?_ (⟨Q0 _,rfl⟩) fun k2 hk2=>?_
    ·exact wB
    obtain⟨hk2,ak2⟩:=hk2;by_cases lk2:k2<(nth m.Inbox i).length
    ·have hz:=ah lk2
     repeat'(first|refine gD ?_|(conv=>whnf);first|with_reducible (first|refine Ix.nat (aa hy) ?_|refine Ix.nat (aa hz) ?_|refine Bf.D (fun hq=>?_) (fun hq=>?_)))
     all_goals first
      | exact R0 (fun z=>[B z]) ((oA li (by unfold gg;rw[dP hz (by unfold KX;exact P0 (by omega))];simp)).symm)
      | ((conv=>whnf);refine Nx.mk (k2+1) ⟨by omega,cz hz ak2 (by unfold KX;exact O0 (by omega))⟩ (by omega) ?_;(exact wB))
    ·have ae2:=gf (by omega) ak2
     have hsum:bo m (i+1)=bo m i+((nth m.Buffers i).length+(nth m.Inbox i).length):=rfl
     repeat'(first|refine gD ?_|(conv=>whnf);first|with_reducible (first|refine Ix.nat (aa hx) ?_|refine Ix.nat (aa hy) ?_))
     ((conv=>whnf);refine Nx.mk (i+1) ⟨by omega,bJ ai (by unfold gg;rw[ae,ae2];rfl),by omega,by omega⟩ (by omega) ?_)
     rw[hsum];exact wB
  ·obtain rfl:i=m.Buffers.length:=by omega
   repeat'(first|refine gD ?_|fail)
   exact R0 (fun z=>[B z]) ((ww hn ai).symm)
 ·refine fO 82 [(20,15,[64,65,66,67,68,69,70,71,72,73,74,75,76,77,78])] Tryz.func70 rfl ?_
  repeat'(first|refine gO ?_|(conv=>whnf);first|with_reducible (first|refine Bf.D (fun hq=>?_) (fun hq=>?_)|refine Bf.N (fun hq=>?_) (fun hq=>?_))|refine Cl.mk (aJ _ 1 4) ?_)
  all_goals first
   | exact R0 (fun z=>[B z]) ((um hn).symm)
   |(exfalso;omega)
theorem xY {s:au} {a:Int} (h:cy s a=false):S2 (gU s a)=[I (-1),I (-1)]:=by
 unfold gU;rw[h];rfl
theorem vH {s:au} {a:Int} (h:cy s a=true):S2 (gU s a)=[I ((a - 16*s.Page) / csz s.Class),I ((a - 16*s.Page) % csz s.Class)]:=by
 unfold gU;rw[h];rfl
theorem pR {s:au} {a:Int} (h:cy s a=true):bf s=true/\0<=(a - 16*s.Page) / csz s.Class/\(a - 16*s.Page) / csz s.Class<=15:=by
 unfold cy at h;simp only[I0,C0]at h;have hc:=aG h.1;refine⟨h.1,?_⟩;rcases cj ⟨hc.2.2.1,hc.2.2.2⟩ with e|e|e|e<;>rw[e]<;>omega
theorem lL {sp:List au} {la:List aA} {a:Int} {i:Nat} (hi:i<sp.length) (h:cy (nth sp i) a=true) (ha:∀ (j:Nat) (z:au),j<i->sp[j]? = some z->cy z a=false):denotes sp la a=oE i (nth sp i) a:=by
 unfold denotes;rw[tO (pr:=(cy · a)) (ah hi) h ha]
theorem kP {sp:List au} {la:List aA} {a:Int} {i n:Nat} (hn:sp.length<=n) (hs:∀ (j:Nat) (z:au),j<n->sp[j]? = some z->cy z a=false) (hi:i<la.length) (h:bz (nth la i) a=true) (ha:∀ (j:Nat) (z:aA),j<i->la[j]? = some z->bz z a=false) :
  denotes sp la a = ⟨3,i,0,a - 16*(nth la i).Page⟩:=by
 unfold denotes;rw[u5 (pr:=(cy · a)) hn hs,tO (pr:=(bz · a)) (ah hi) h ha]
theorem wn {sp:List au} {la:List aA} {a:Int} {n k:Nat} (hn:sp.length<=n) (hs:∀ (j:Nat) (z:au),j<n->sp[j]? = some z->cy z a=false) (hk:la.length<=k) (ha:∀ (j:Nat) (z:aA),j<k->la[j]? = some z->bz z a=false):denotes sp la a = ⟨0,0,0,0⟩:=by
 unfold denotes;rw[u5 (pr:=(cy · a)) hn hs,u5 (pr:=(bz · a)) hk ha]
theorem lG (sp:List au) (la:List aA) (a:Int) (hs1:dq sp) (hs2:dt la) (hlay:bg sp la=true) (hw:l7 a):ao Tryz.prog 275 false [.val none (ci .imm sp),.val none (bY .imm la),.val none [I a]] .agg (iy.enc .own (denotes sp la a)):=by
 have hl1:=hs1.1;have hl2:=hs2.1;have h0:=kB sp la hs1 hs2;rw[hlay]at h0;refine fO 67 [] Tryz.func275 rfl ?_ (.inr (iy.enc_fr _))
 repeat'(first|refine gO ?_|(conv=>whnf);first|refine Cl.mk h0 ?_)
 (conv=>whnf)
 refine Lp.mk (ι:=Nat) (fun i=>[(0,.hold .one (ci .imm sp)),(1,.hold .one (bY .imm la)),(2,.hold .one [I (a)]),(6,.hold .box ([I 0,I 0,I 0,I 0])),(7,.hold .one [I ((i:Nat):Int)])]) (fun i=>i<=sp.length/\∀ (j:Nat) (z:au),j<i->sp[j]? = some z->cy z a=false) (fun i=>sp.length - i) (0) ?_ (⟨Q0 _,fun j z hj=>by omega⟩) fun i hi=>?_
 ·exact wB
 obtain⟨hi,ai⟩:=hi;by_cases li:i<sp.length
 ·have hx:=ah li
  have h1:=sO (nth sp i) a hw;cases e1:cy (nth sp i) a with
  | false=>
   rw[xY e1]at h1
   repeat'(first|refine gD ?_|(conv=>whnf);first|with_reducible (first|refine Ix.nat (aa hx) ?_|refine Bf.D (fun hq=>?_) (fun hq=>?_))|refine Cl.mk h1 ?_)
   ((conv=>whnf);refine Nx.mk (i+1) ⟨by omega,dl (pr:=(cy · a)) hx e1 ai⟩ (by omega) ?_;(exact wB))
  | true=>
   rw[vH e1]at h1;obtain⟨f1,f2,f3⟩:=pR e1;have h2:=hB (nth sp i).Bits ((a - 16*(nth sp i).Page) / csz (nth sp i).Class) (eH f1).2;cases e2:aY (nth sp i).Bits ((a - 16*(nth sp i).Page) / csz (nth sp i).Class)<;>rw[e2]at h2
   all_goals
    repeat'(first|refine gD ?_|(conv=>whnf);first|with_reducible (first|refine Ix.nat (aa hx) ?_|refine Bf.D (fun hq=>?_) (fun hq=>?_))|refine Cl.mk h1 ?_|refine Cl.mk h2 ?_)
    all_goals(rw[lL li e1 ai];unfold oE;rw[e2];rfl)
 ·repeat'(first|refine gD ?_|fail)
  (conv=>whnf)
  refine Lp.mk (ι:=Nat) (fun k=>[(1,.hold .one (bY .imm la)),(2,.hold .one [I (a)]),(6,.hold .box ([I 0,I 0,I 0,I 0])),(11,.hold .one [I ((k:Nat):Int)])]) (fun k=>k<=la.length/\∀ (j:Nat) (z:aA),j<k->la[j]? = some z->bz z a=false) (fun k=>la.length - k) (0) ?_ (⟨Q0 _,fun j z hj=>by omega⟩) fun k hk=>?_
  ·exact wB
  obtain⟨hk,ak⟩:=hk;by_cases lk:k<la.length
  ·have hx:=ah lk
   have h1:=oJ (nth la k) a;cases e1:bz (nth la k) a<;>rw[e1]at h1
   ·repeat'(first|refine gD ?_|(conv=>whnf);first|with_reducible refine Ix.nat (aa hx) ?_|refine Cl.mk h1 ?_)
    ((conv=>whnf);refine Nx.mk (k+1) ⟨by omega,dl (pr:=(bz · a)) hx e1 ak⟩ (by omega) ?_;(exact wB))
   ·repeat'(first|refine gD ?_|(conv=>whnf);first|with_reducible refine Ix.nat (aa hx) ?_|refine Cl.mk h1 ?_|refine Cl.mk (rx (nth la k) a e1) ?_)
    rw[kP (n:=i) (by omega) ai lk e1 ak];rfl
  ·repeat'(first|refine gD ?_|fail)
   rw[wn (n:=i) (k:=k) (by omega) ai (by omega) ak];rfl
theorem qI (sp:List au) (la:List aA) (a:Int) (hs1:dq sp) (hs2:dt la):ao Tryz.prog 91 false [.val none (ci .imm sp),.val none (bY .imm la),.val none [I a]] .agg (iy.enc .own (denotes sp la a)):=by
 have hl1:=hs1.1;have hl2:=hs2.1;refine fO 56 [] Tryz.func91 rfl ?_ (.inr (iy.enc_fr _))
 repeat'(first|refine gO ?_|fail)
 (conv=>whnf)
 refine Lp.mk (ι:=Nat) (fun i=>[(1,.hold .one (bY .imm la)),(2,.hold .one [I (a)]),(6,.hold .box ([I 0,I 0,I 0,I 0])),(14,.hold .one (ci .imm sp)),(15,.hold .one [I (sp.length)]),(16,.hold .one [I ((i:Nat):Int)])]) (fun i=>i<=sp.length/\∀ (j:Nat) (z:au),j<i->sp[j]? = some z->cy z a=false) (fun i=>sp.length - i) (0) ?_ (⟨Q0 _,fun j z hj=>by omega⟩) fun i hi=>?_
 ·exact wB
 obtain⟨hi,ai⟩:=hi;by_cases li:i<sp.length
 ·have hx:=ah li
  have h1:=AA (nth sp i) a;cases e1:cy (nth sp i) a with
  | false=>
   rw[xY e1]at h1
   repeat'(first|refine gD ?_|(conv=>whnf);first|with_reducible (first|refine Ix.nat (aa hx) ?_|refine Bf.D (fun hq=>?_) (fun hq=>?_))|refine Cl.mk h1 ?_)
   ((conv=>whnf);refine Nx.mk (i+1) ⟨by omega,dl (pr:=(cy · a)) hx e1 ai⟩ (by omega) ?_;(exact wB))
  | true=>
   rw[vH e1]at h1;obtain⟨f1,f2,f3⟩:=pR e1;have h2:=pU (nth sp i).Bits ((a - 16*(nth sp i).Page) / csz (nth sp i).Class) (eH f1).2;cases e2:aY (nth sp i).Bits ((a - 16*(nth sp i).Page) / csz (nth sp i).Class)<;>rw[e2]at h2
   all_goals
    repeat'(first|refine gD ?_|(conv=>whnf);first|with_reducible (first|refine Ix.nat (aa hx) ?_|refine Bf.D (fun hq=>?_) (fun hq=>?_))|refine Cl.mk h1 ?_|refine Cl.mk h2 ?_)
    all_goals(rw[lL li e1 ai];unfold oE;rw[e2];rfl)
 ·repeat'(first|refine gD ?_|fail)
  (conv=>whnf)
  refine Lp.mk (ι:=Nat) (fun k=>[(2,.hold .one [I (a)]),(6,.hold .box ([I 0,I 0,I 0,I 0])),(39,.hold .one (bY .imm la)),(40,.hold .one [I (la.length)]),(41,.hold .one [I ((k:Nat):Int)])]) (fun k=>k<=la.length/\∀ (j:Nat) (z:aA),j<k->la[j]? = some z->bz z a=false) (fun k=>la.length - k) (0) ?_ (⟨Q0 _,fun j z hj=>by omega⟩) fun k hk=>?_
  ·exact wB
  obtain⟨hk,ak⟩:=hk;by_cases lk:k<la.length
  ·have hx:=ah lk
   have h1:=oO (nth la k) a;cases e1:bz (nth la k) a<;>rw[e1]at h1
   ·repeat'(first|refine gD ?_|(conv=>whnf);first|with_reducible refine Ix.nat (aa hx) ?_|refine Cl.mk h1 ?_)
    ((conv=>whnf);refine Nx.mk (k+1) ⟨by omega,dl (pr:=(bz · a)) hx e1 ak⟩ (by omega) ?_;(exact wB))
   ·repeat'(first|refine gD ?_|(conv=>whnf);first|with_reducible refine Ix.nat (aa hx) ?_|refine Cl.mk h1 ?_|refine Cl.mk (rO (nth la k) a e1) ?_)
    rw[kP (n:=i) (by omega) ai lk e1 ak];rfl
  ·repeat'(first|refine gD ?_|fail)
   rw[wn (n:=i) (k:=k) (by omega) ai (by omega) ak];rfl
section
variable {α:Type}
def D4 (ag:Option Nat) (e:α->List C) (pr:α->Bool) (xs:List α):List (Option Nat × List C)->Kd->List C->Prop:=fun L k rcs=>∃ x,x∈xs/\L=[(ag,e x)]/\k=.one/\rcs=[B (pr x)]
end
theorem tC (xs:List a7) (pr:a7->Bool) (hl:xs.length<=9223372036854775807):ao Tryz.prog 311 false [.val none (bD .imm xs),.fn (pd Tryz.prog (D4 (some 2) (a7.enc .imm) pr xs))] .one [I (dw pr xs)]:=by
 refine fO 19 [] Tryz.func311 rfl ?_
 repeat'(first|refine gO ?_|fail)
 (conv=>whnf)
 refine Lp.mk (ι:=Nat) (fun i=>[(0,.hold .one (bD .imm xs)),(1,.fv (pd Tryz.prog (D4 (some 2) (a7.enc .imm) pr xs))),(7,.hold .one [I xs.length]),(8,.hold .one [I (i:Nat)])]) (fun i=>i<=xs.length/\∀ (j:Nat) (z:a7),j<i->xs[j]? = some z->pr z=false) (fun i=>xs.length - i) 0 ?_ ⟨Q0 _,fun j z hj=>by omega⟩ fun i hi=>?_
 ·exact wB
 ·obtain⟨hi,ha⟩:=hi
  by_cases hlt:i<xs.length
  ·obtain⟨y,hy⟩ : ∃ y,xs[i]? = some y:=⟨_,Q1 hlt⟩
   repeat'(first|refine gD ?_|(conv=>whnf);first|with_reducible refine Ix.nat (aa hy) ?_|refine Fv.mk (k:=.one) (rcs:=[B (pr y)]) ⟨y,O1 hy,rfl,rfl,rfl⟩ ?_|refine Bf.P (fun hq=>?_) (fun hq=>?_))
   ·exact R0 (fun z=>[I z]) (dR hy ‹_› ha).symm
   ·(conv=>whnf)
    refine Nx.mk (i+1) ⟨by omega,fun j z hj hz=>?_⟩ (by omega) ?_
    ·rcases Nat.lt_or_ge j i with h1|h1
     ·exact ha j z h1 hz
     ·obtain rfl:j=i:=by omega
      rw[hy]at hz;cases hz;assumption
    ·exact wB
  ·repeat'(first|refine gD ?_|fail)
   exact R0 (fun z=>[I z]) (gr (by omega) ha).symm
theorem pA (xs:List a7) (pr:a7->Bool) (hl:xs.length<=9223372036854775807):ao Tryz.prog 245 false [.val none (bD .imm xs),.fn (pd Tryz.prog (D4 (some 2) (a7.enc .imm) pr xs))] .one [B (xs.any pr)]:=by
 refine fO 9 [] Tryz.func245 rfl ?_
 repeat'(first|refine gO ?_|(conv=>whnf);first|refine Cl.mk (tC xs pr hl) ?_)
 exact R0 (fun z=>[B z]) (kS pr xs)
theorem sM (r:a7) (page:Int):ao Tryz.prog 246 false [.val (some 2) (a7.enc .imm r),.ptr [I page]] .one [B (pN page r)]:=by
 refine fO 17 [] Tryz.func246 rfl ?_
 repeat'(first|refine gO ?_|(conv=>whnf);first|with_reducible refine Bf.D (fun hq=>?_) (fun hq=>?_)|refine Wr.mk rfl ?_)
 all_goals exact R0 (fun z=>[B z]) (by unfold pN;first|(rw[O0 (by assumption:r.At<=page)];simp;done)|(rw[P0 (by assumption:¬r.At<=page)];rfl))
theorem xn (xs:List a7) (page:Int) (hl:xs.length<=9223372036854775807):ao Tryz.prog 164 false [.val none (bD .imm xs),.val none [I page]] .one [B (xs.any (pN page))]:=by
 refine fO 8 [] Tryz.func164 rfl ?_
 repeat'(first|refine gO ?_|(conv=>whnf);first|refine Cq.mk (D4 (some 2) (a7.enc .imm) (pN page) xs) (sM default page).has (fun L k rcs hQ=>?_) ?_|refine Cl.mk (pA xs (pN page) hl) ?_)
 ·obtain⟨x,-,rfl,rfl,rfl⟩:=hQ
  exact sM x page
 ·rfl
theorem tF (xs:List aM) (pr:aM->Bool) (hl:xs.length<=9223372036854775807):ao Tryz.prog 323 false [.val none (cC .imm xs),.fn (pd Tryz.prog (D4 (some 3) (aM.enc .imm) pr xs))] .one [I (dw pr xs)]:=by
 refine fO 19 [] Tryz.func323 rfl ?_
 repeat'(first|refine gO ?_|fail)
 (conv=>whnf)
 refine Lp.mk (ι:=Nat) (fun i=>[(0,.hold .one (cC .imm xs)),(1,.fv (pd Tryz.prog (D4 (some 3) (aM.enc .imm) pr xs))),(7,.hold .one [I xs.length]),(8,.hold .one [I (i:Nat)])]) (fun i=>i<=xs.length/\∀ (j:Nat) (z:aM),j<i->xs[j]? = some z->pr z=false) (fun i=>xs.length - i) 0 ?_ ⟨Q0 _,fun j z hj=>by omega⟩ fun i hi=>?_
 ·exact wB
 ·obtain⟨hi,ha⟩:=hi
  by_cases hlt:i<xs.length
  ·obtain⟨y,hy⟩ : ∃ y,xs[i]? = some y:=⟨_,Q1 hlt⟩
   repeat'(first|refine gD ?_|(conv=>whnf);first|with_reducible refine Ix.nat (aa hy) ?_|refine Fv.mk (k:=.one) (rcs:=[B (pr y)]) ⟨y,O1 hy,rfl,rfl,rfl⟩ ?_|refine Bf.P (fun hq=>?_) (fun hq=>?_))
   ·exact R0 (fun z=>[I z]) (dR hy ‹_› ha).symm
   ·(conv=>whnf)
    refine Nx.mk (i+1) ⟨by omega,dl hy (by assumption) ha⟩ (by omega) ?_;exact wB
  ·repeat'(first|refine gD ?_|fail)
   exact R0 (fun z=>[I z]) (gr (by omega) ha).symm
theorem pJ (xs:List aM) (pr:aM->Bool) (hl:xs.length<=9223372036854775807):ao Tryz.prog 252 false [.val none (cC .imm xs),.fn (pd Tryz.prog (D4 (some 3) (aM.enc .imm) pr xs))] .one [B (xs.any pr)]:=by
 refine fO 9 [] Tryz.func252 rfl ?_
 repeat'(first|refine gO ?_|(conv=>whnf);first|refine Cl.mk (tF xs pr hl) ?_)
 exact R0 (fun z=>[B z]) (kS pr xs)
theorem uq (xs:List au) (pr:au->Bool) (hl:xs.length<=9223372036854775807):ao Tryz.prog 99 false [.val none (ci .imm xs),.fn (pd Tryz.prog (D4 (some 3) (au.enc .imm) pr xs))] .one [I (dw pr xs)]:=by
 refine fO 19 [] Tryz.func99 rfl ?_
 repeat'(first|refine gO ?_|fail)
 (conv=>whnf)
 refine Lp.mk (ι:=Nat) (fun i=>[(0,.hold .one (ci .imm xs)),(1,.fv (pd Tryz.prog (D4 (some 3) (au.enc .imm) pr xs))),(7,.hold .one [I xs.length]),(8,.hold .one [I (i:Nat)])]) (fun i=>i<=xs.length/\∀ (j:Nat) (z:au),j<i->xs[j]? = some z->pr z=false) (fun i=>xs.length - i) 0 ?_ ⟨Q0 _,fun j z hj=>by omega⟩ fun i hi=>?_
 ·exact wB
 ·obtain⟨hi,ha⟩:=hi
  by_cases hlt:i<xs.length
  ·obtain⟨y,hy⟩ : ∃ y,xs[i]? = some y:=⟨_,Q1 hlt⟩
   repeat'(first|refine gD ?_|(conv=>whnf);first|with_reducible refine Ix.nat (aa hy) ?_|refine Fv.mk (k:=.one) (rcs:=[B (pr y)]) ⟨y,O1 hy,rfl,rfl,rfl⟩ ?_|refine Bf.P (fun hq=>?_) (fun hq=>?_))
   ·exact R0 (fun z=>[I z]) (dR hy ‹_› ha).symm
   ·(conv=>whnf)
    refine Nx.mk (i+1) ⟨by omega,dl hy (by assumption) ha⟩ (by omega) ?_;exact wB
  ·repeat'(first|refine gD ?_|fail)
   exact R0 (fun z=>[I z]) (gr (by omega) ha).symm
theorem x6 (xs:List bO) (pr:bO->Bool) (hl:xs.length<=9223372036854775807):ao Tryz.prog 101 false [.val none (nG .imm xs),.fn (pd Tryz.prog (D4 (some 4) (bO.enc .imm) pr xs))] .one [I (dw pr xs)]:=by
 refine fO 19 [] Tryz.func101 rfl ?_
 repeat'(first|refine gO ?_|fail)
 (conv=>whnf)
 refine Lp.mk (ι:=Nat) (fun i=>[(0,.hold .one (nG .imm xs)),(1,.fv (pd Tryz.prog (D4 (some 4) (bO.enc .imm) pr xs))),(7,.hold .one [I xs.length]),(8,.hold .one [I (i:Nat)])]) (fun i=>i<=xs.length/\∀ (j:Nat) (z:bO),j<i->xs[j]? = some z->pr z=false) (fun i=>xs.length - i) 0 ?_ ⟨Q0 _,fun j z hj=>by omega⟩ fun i hi=>?_
 ·exact wB
 ·obtain⟨hi,ha⟩:=hi
  by_cases hlt:i<xs.length
  ·obtain⟨y,hy⟩ : ∃ y,xs[i]? = some y:=⟨_,Q1 hlt⟩
   repeat'(first|refine gD ?_|(conv=>whnf);first|with_reducible refine Ix.nat (aa hy) ?_|refine Fv.mk (k:=.one) (rcs:=[B (pr y)]) ⟨y,O1 hy,rfl,rfl,rfl⟩ ?_|refine Bf.P (fun hq=>?_) (fun hq=>?_))
   ·exact R0 (fun z=>[I z]) (dR hy ‹_› ha).symm
   ·(conv=>whnf)
    refine Nx.mk (i+1) ⟨by omega,dl hy (by assumption) ha⟩ (by omega) ?_;exact wB
  ·repeat'(first|refine gD ?_|fail)
   exact R0 (fun z=>[I z]) (gr (by omega) ha).symm
theorem rd (xs:List bO) (pr:bO->Bool) (hl:xs.length<=9223372036854775807):ao Tryz.prog 168 false [.val none (nG .imm xs),.fn (pd Tryz.prog (D4 (some 4) (bO.enc .imm) pr xs))] .one [B (xs.any pr)]:=by
 refine fO 9 [] Tryz.func168 rfl ?_
 repeat'(first|refine gO ?_|(conv=>whnf);first|refine Cl.mk (x6 xs pr hl) ?_)
 exact R0 (fun z=>[B z]) (kS pr xs)
theorem KM {k:Nat} (hk:k<=3):IntKind.i64.wrap (1*2 ^ min ((k:Nat):Int).toNat IntKind.i64.bits)=csz (k:Nat):=by
 obtain rfl|rfl|rfl|rfl:k=0\/k=1\/k=2\/k=3:=by omega
 all_goals decide
theorem LY {k:Nat} (hk:k<=100):IntKind.u64.wrap (k:Nat)=(k:Nat):=by
 unfold IntKind.wrap;simp[IntKind.signed,IntKind.bits];omega
theorem zC {k:Nat} {z:Int} (hk:k<=3) (h:csz (k:Nat)<z) (hz:z<=8):k<=2:=by
 have e8:csz ((3:Nat):Int)=8:=by decide
 obtain rfl|rfl|rfl|rfl:k=0\/k=1\/k=2\/k=3:=by omega
 all_goals omega
theorem uJ {k:Nat} {z:Int} (hk:k<=3) (h1:1<=z) (h2:k=0\/csz ((k - 1:Nat):Int)<z) (h3:¬csz (k:Nat)<z):aN z=(k:Nat):=by
 have e0:csz ((0:Nat):Int)=1:=by decide
 have e1:csz ((1:Nat):Int)=2:=by decide
 have e2:csz ((2:Nat):Int)=4:=by decide
 have e3:csz ((3:Nat):Int)=8:=by decide
 unfold aN;obtain rfl|rfl|rfl|rfl:k=0\/k=1\/k=2\/k=3:=by omega
 all_goals simp only[Nat.reduceSub,e0,e1,e2,e3]at h2 h3
 all_goals(repeat' split)<;>omega
theorem ju (z:Int):ao Tryz.prog 233 false [.val none [I z]] .one [I (aN z)]:=by
 refine fO 15 [] Tryz.func233 rfl ?_;by_cases hz:1<=z/\z<=8
 ·repeat'(first|refine gD ?_|(conv=>whnf);first|with_reducible refine Bf.D (fun hq=>?_) (fun hq=>?_)|refine Cl.mk (aD z 1 8) ?_)
  (conv=>whnf)
  refine Lp.mk (ι:=Nat) (fun k=>[(0,.hold .one [I (z)]),(3,.hold .one [I ((k:Nat):Int)])]) (fun k=>k<=3/\(k=0\/csz ((k - 1:Nat):Int)<z)) (fun k=>4 - k) (0) ?_ (⟨by omega,.inl rfl⟩) fun k hk=>?_
  ·exact wB
  obtain⟨hk,h2⟩:=hk
  repeat'(first|refine gO ?_|(conv=>whnf);first|with_reducible refine Bf.D (fun hq=>?_) (fun hq=>?_)|refine Wr.mk (LY (by omega)) ?_|refine Wr.mk (KM hk) ?_|refine Cd.mk (by omega) ?_)
  all_goals first
   | exact R0 (fun z=>[I z]) (uJ hk hz.1 h2 (by assumption)).symm
   | ((conv=>whnf);refine Nx.mk (k+1) ⟨by have:=zC hk (by assumption) hz.2;omega,.inr (by simpa using (by assumption:csz (k:Nat)<z))⟩ (by have:=zC hk (by assumption) hz.2;omega) ?_;(exact wB))
 ·repeat'(first|refine gD ?_|(conv=>whnf);first|with_reducible refine Bf.D (fun hq=>?_) (fun hq=>?_)|refine Cl.mk (aD z 1 8) ?_)
  all_goals exact R0 (fun z=>[I z]) (by unfold aN;(repeat' split)<;>omega)
theorem zi (z:Int):ao Tryz.prog 88 false [.val none [I z]] .one [I (aN z)]:=by
 refine fO 14 [] Tryz.func88 rfl ?_;by_cases hz:1<=z/\z<=8
 ·repeat'(first|refine gD ?_|(conv=>whnf);first|with_reducible refine Bf.D (fun hq=>?_) (fun hq=>?_)|refine Cl.mk (aJ z 1 8) ?_)
  (conv=>whnf)
  refine Lp.mk (ι:=Nat) (fun k=>[(0,.hold .one [I (z)]),(3,.hold .one [I ((k:Nat):Int)])]) (fun k=>k<=3/\(k=0\/csz ((k - 1:Nat):Int)<z)) (fun k=>4 - k) (0) ?_ (⟨by omega,.inl rfl⟩) fun k hk=>?_
  ·exact wB
  obtain⟨hk,h2⟩:=hk
  repeat'(first|refine gO ?_|(conv=>whnf);first|with_reducible refine Bf.D (fun hq=>?_) (fun hq=>?_)|refine Cl.mk (eA _) ?_)
  all_goals first
   | exact R0 (fun z=>[I z]) (uJ hk hz.1 h2 (by assumption)).symm
   | ((conv=>whnf);refine Nx.mk (k+1) ⟨by have:=zC hk (by assumption) hz.2;omega,.inr (by simpa using (by assumption:csz (k:Nat)<z))⟩ (by have:=zC hk (by assumption) hz.2;omega) ?_;(exact wB))
 ·repeat'(first|refine gD ?_|(conv=>whnf);first|with_reducible refine Bf.D (fun hq=>?_) (fun hq=>?_)|refine Cl.mk (aJ z 1 8) ?_)
  all_goals exact R0 (fun z=>[I z]) (by unfold aN;(repeat' split)<;>omega)
theorem qL (q:bB) (a:Int) (hs:bB.sml q):ao Tryz.prog 272 false [.val (some 2) (bB.enc .imm q),.val none [I a]] .one [B (q.Lst.any (dJ a))]:=by
 have hl:q.Lst.length<=1048576:=hs.1;refine fO 21 [] Tryz.func272 rfl ?_
 repeat'(first|refine gO ?_|fail)
 (conv=>whnf)
 refine Lp.mk (ι:=Nat) (fun i=>[(1,.hold .one [I (a)]),(2,.hold .box (bB.enc .imm q)),(5,.hold .one [I ((i:Nat):Int)])]) (fun i=>i<=q.Lst.length/\(q.Lst.take i).any (dJ a)=false) (fun i=>q.Lst.length - i) (0) ?_ (⟨Q0 _,rfl⟩) fun i hi=>?_
 ·exact wB
 obtain⟨hi,ha⟩:=hi;by_cases li:i<q.Lst.length
 ·have hx:=ah li
  repeat'(first|refine gD ?_|(conv=>whnf);first|with_reducible (first|refine Ix.nat (aa hx) ?_|refine Bf.E (fun hq=>?_) (fun hq=>?_)))
  all_goals first
   | exact R0 (fun z=>[B z]) ((Af hx (O0 (by assumption))).symm)
   | ((conv=>whnf);refine Nx.mk (i+1) ⟨by omega,uP hx ha (P0 (by assumption))⟩ (by omega) ?_;(exact wB))
 ·repeat'(first|refine gD ?_|fail)
  exact R0 (fun z=>[B z]) ((Fw (by omega) ha).symm)
theorem hO (xs:List aM) (i:Nat):quarCells xs (i+1)=quarCells xs i+csz (nth xs i).Class:=rfl
theorem K7 (k:Int):0<=csz k/\csz k<=8:=by
 by_cases h:0<=k/\k<=3
 ·rcases cj h with e|e|e|e<;>rw[e]<;>decide
 ·unfold csz;rw[if_neg h];decide
theorem sB (xs:List aM) (hs:jI xs):ao Tryz.prog 273 false [.val none (cC .imm xs)] .one [I (quarCells xs xs.length)]:=by
 have hl:=hs.1;refine fO 20 [] Tryz.func273 rfl ?_
 repeat'(first|refine gO ?_|fail)
 (conv=>whnf)
 refine Lp.mk (ι:=Nat) (fun i=>[(0,.hold .one (cC .imm xs)),(3,.hold .one [I (quarCells xs i)]),(4,.hold .one [I ((i:Nat):Int)])]) (fun i=>i<=xs.length/\0<=quarCells xs i/\quarCells xs i<=8*i) (fun i=>xs.length - i) (0) ?_ (⟨Q0 _,by simp[quarCells],by simp[quarCells]⟩) fun i hi=>?_
 ·exact wB
 obtain⟨hi,s0,s1⟩:=hi;by_cases li:i<xs.length
 ·have hx:=ah li
  have hb:=K7 (nth xs i).Class;have hst:=hO xs i
  repeat'(first|refine gD ?_|(conv=>whnf);first|with_reducible refine Ix.nat (aa hx) ?_|refine Cl.mk (dv _) ?_)
  ((conv=>whnf);refine Nx.mk (i+1) ⟨by omega,by omega,by omega⟩ (by omega) ?_)
  rw[hst];exact wB
 ·repeat'(first|refine gD ?_|fail)
  obtain rfl:i=xs.length:=by omega
  rfl
theorem wF (xs:List aM) (hs:jI xs):ao Tryz.prog 87 false [.val none (cC .imm xs)] .one [I (quarCells xs xs.length)]:=by
 have hl:=hs.1;refine fO 19 [] Tryz.func87 rfl ?_
 repeat'(first|refine gO ?_|fail)
 (conv=>whnf)
 refine Lp.mk (ι:=Nat) (fun i=>[(3,.hold .one [I (quarCells xs i)]),(6,.hold .one (cC .imm xs)),(7,.hold .one [I (xs.length)]),(8,.hold .one [I ((i:Nat):Int)])]) (fun i=>i<=xs.length/\0<=quarCells xs i/\quarCells xs i<=8*i) (fun i=>xs.length - i) (0) ?_ (⟨Q0 _,by simp[quarCells],by simp[quarCells]⟩) fun i hi=>?_
 ·exact wB
 obtain⟨hi,s0,s1⟩:=hi;by_cases li:i<xs.length
 ·have hx:=ah li
  have hb:=K7 (nth xs i).Class;have hst:=hO xs i
  repeat'(first|refine gD ?_|(conv=>whnf);first|with_reducible refine Ix.nat (aa hx) ?_|refine Cl.mk (eA _) ?_)
  ((conv=>whnf);refine Nx.mk (i+1) ⟨by omega,by omega,by omega⟩ (by omega) ?_)
  rw[hst];exact wB
 ·repeat'(first|refine gD ?_|fail)
  obtain rfl:i=xs.length:=by omega
  rfl
theorem yf (x0:aM):ao Tryz.prog 271 false [.val (some 3) (aM.enc .imm x0)] .one [B (decide (0<=x0.Class/\x0.Class<=3/\0<=x0.Addr/\0<=x0.Since))]:=by
 refine fO 16 [] Tryz.func271 rfl ?_
 repeat'(first|refine gO ?_|(conv=>whnf);first|with_reducible refine Bf.D (fun hq=>?_) (fun hq=>?_)|refine Cl.mk (aD _ 0 3) ?_)
 all_goals exact R0 (fun z=>[B z]) ((by first|(symm;exact P0 (by omega))|exact decide_eq_decide.2 (by omega)))
theorem H8 {xs:List aM} (hs:jI xs) (i:Nat):jI (xs.take i):=⟨by have:=hs.1;rw[C1];omega,fun _ _=>trivial⟩
theorem mT (q:bB) (hs:bB.sml q):ao Tryz.prog 207 false [.val (some 2) (bB.enc .imm q)] .one [B (eN q)]:=by
 have hl:q.Lst.length<=1048576:=hs.1;refine fO 57 [(5,29,[17,18,19,20,21,22,23,24,25,26,27,28,29,30,31,32,33,34,35,36,37,38,39,40,41,42,43,44,45]),(7,11,[46,47,48,49,50,51,52,53,54,55,56])] Tryz.func207 rfl ?_
 repeat'(first|refine gO ?_|fail)
 (conv=>whnf)
 refine Lp.mk (ι:=Nat) (fun i=>[(1,.hold .box (bB.enc .imm q)),(3,.hold .one [I ((i:Nat):Int)])]) (fun i=>i<=q.Lst.length/\cH i (js q.Lst)=true) (fun i=>q.Lst.length - i) 0 ?_ ⟨Q0 _,rfl⟩ fun i hi=>?_
 ·exact wB
 obtain⟨hi,ai⟩:=hi;by_cases li:i<q.Lst.length
 ·have hx:=ah li
  have h1:=qL ⟨0,q.Lst.take i⟩ (nth q.Lst i).Addr (H8 hs i);cases e1:(q.Lst.take i).any (dJ (nth q.Lst i).Addr)<;>rw[show(bB.mk 0 (q.Lst.take i)).Lst.any (dJ (nth q.Lst i).Addr)=_ from e1]at h1
  all_goals
   repeat'(first|refine gD ?_|(conv=>whnf);first|with_reducible (first|refine Ix.nat (aa hx) ?_|refine Bf.D (fun hq=>?_) (fun hq=>?_))|refine Cl.mk (yf _) ?_|refine Ix.mk (by omega) (aa (f9 (by omega) li)) ?_|refine Sl.pre i rfl (by simp;omega) (fun r hr=>by obtain⟨z,-,rfl⟩:=P3.1 hr;rfl) (I3 ..) ?_|refine Cl.mk h1 ?_)
   all_goals first
    | exact R0 (fun z=>[B z]) ((by symm;unfold eN;rw[cb li (by unfold js;first|(rw[e1];simp;done)|(rw[P0 (by omega)];rfl))];rfl))
    | ((conv=>whnf);refine Nx.mk (i+1) ⟨by omega,bJ ai (by unfold js;rw[e1,O0 (by omega)];rfl)⟩ (by omega) ?_;(exact wB))
 ·obtain rfl:i=q.Lst.length:=by omega
  repeat'(first|refine gD ?_|(conv=>whnf);first|with_reducible refine Bf.D (fun hq=>?_) (fun hq=>?_)|refine Cl.mk (aD _ 0 500) ?_|refine Cl.mk (sB q.Lst hs) ?_)
  all_goals exact R0 (fun z=>[B z]) ((by unfold eN;rw[ai];simp only[Bool.true_and];first|(symm;exact P0 (by omega))|exact decide_eq_decide.2 (by omega)))
theorem sJ (x0:aM) (a:Int):ao Tryz.prog 253 false [.val (some 3) (aM.enc .imm x0),.ptr [I a]] .one [B (dJ a x0)]:=by
 refine fO 8 [] Tryz.func253 rfl ?_
 repeat'(first|refine gO ?_|fail)
 exact R0 (fun z=>[B z]) ((by unfold dJ;rw[V3];simp))
theorem xz (xs:List aM) (a:Int) (hl:xs.length<=9223372036854775807):ao Tryz.prog 179 false [.val none (cC .imm xs),.val none [I a]] .one [B (xs.any (dJ a))]:=by
 refine fO 8 [] Tryz.func179 rfl ?_
 repeat'(first|refine gO ?_|(conv=>whnf);first|refine Cq.mk (D4 (some 3) (aM.enc .imm) (dJ a) xs) (sJ default a).has (fun L k rcs hQ=>?_) ?_|refine Cl.mk (pJ xs (dJ a) hl) ?_)
 ·obtain⟨y,-,rfl,rfl,rfl⟩:=hQ
  exact sJ y a
 ·rfl
def nU (xs:List aM) (x0:aM):Bool:=decide (0<=x0.Class/\x0.Class<=3/\0<=x0.Addr/\0<=x0.Since/\(xs.length=0\/(nth xs (xs.length - 1)).Since<=x0.Since))&&!xs.any (dJ x0.Addr)
theorem ze (xs:List aM) (x0:aM) (hl:xs.length<=1048576):ao Tryz.prog 166 false [.val none (cC .imm xs),.val (some 3) (aM.enc .imm x0)] .one [B (nU xs x0)]:=by
 have h1:=xz xs x0.Addr (by omega);cases e1:xs.any (dJ x0.Addr)<;>rw[e1]at h1
 ·by_cases hz:xs.length=0
  ·refine fO 40 [(3,15,[25,26,27,28,29,30,31,32,33,34,35,36,37,38,39])] Tryz.func166 rfl ?_
   repeat'(first|refine gO ?_|(conv=>whnf);first|with_reducible (first|refine Bf.D (fun hq=>?_) (fun hq=>?_)|refine Bf.E (fun hq=>?_) (fun hq=>?_))|refine Cl.mk (eK _) ?_|refine Cl.mk h1 ?_)
   all_goals first
    | exact R0 (fun z=>[B z]) ((by unfold nU;rw[e1,Bool.not_false,Bool.and_true];first|(symm;exact P0 (by omega))|(symm;exact O0 (by omega))|exact decide_eq_decide.2 (by omega)))
    |(exfalso;omega)
    |trace_state
  ·have hx:xs[((xs.length:Int) - 1).toNat]? = some (nth xs (xs.length - 1)):=by rw[show((xs.length:Int) - 1).toNat=xs.length - 1 by omega];exact ah (by omega)
   refine fO 40 [(3,15,[25,26,27,28,29,30,31,32,33,34,35,36,37,38,39])] Tryz.func166 rfl ?_
   repeat'(first|refine gO ?_|(conv=>whnf);first|with_reducible (first|refine Bf.D (fun hq=>?_) (fun hq=>?_)|refine Bf.E (fun hq=>?_) (fun hq=>?_))|refine Cl.mk (eK _) ?_|refine Cl.mk h1 ?_|refine Ix.mk (by omega) (aa hx) ?_)
   all_goals first
    | exact R0 (fun z=>[B z]) ((by unfold nU;rw[e1,Bool.not_false,Bool.and_true];first|(symm;exact P0 (by omega))|(symm;exact O0 (by omega))|exact decide_eq_decide.2 (by omega)))
    |(exfalso;omega)
    |trace_state
 ·refine fO 40 [(3,15,[25,26,27,28,29,30,31,32,33,34,35,36,37,38,39])] Tryz.func166 rfl ?_
  repeat'(first|refine gO ?_|(conv=>whnf);first|with_reducible refine Bf.D (fun hq=>?_) (fun hq=>?_)|refine Cl.mk (eK _) ?_|refine Cl.mk h1 ?_)
  all_goals exact R0 (fun z=>[B z]) ((by unfold nU;rw[e1];simp))
theorem DN {xs:List aM} {i:Nat} (hi:i<xs.length):nU (xs.take i) (nth xs i)=js xs i:=by
 unfold nU js;have h1:(xs.take i).length=i:=by rw[C1];omega
 rw[h1]
 congr 1
 refine decide_eq_decide.2 ?_;by_cases h0:i=0
 ·subst h0;simp
 ·have h2:nth (xs.take i) (i - 1)=nth xs (i - 1):=by
   have:=ah (xs:=xs) (i:=i - 1) (by omega);exact bq (by rw[List.getElem?_take_of_lt (by omega)];exact this)
  rw[h2]
theorem BZ (q:bB) (hs:bB.sml q):ao Tryz.prog 71 false [.val (some 2) (bB.enc .imm q)] .one [B (eN q)]:=by
 have hl:q.Lst.length<=1048576:=hs.1;refine fO 32 [(4,7,[13,14,15,16,17,18,19]),(7,11,[21,22,23,24,25,26,27,28,29,30,31])] Tryz.func71 rfl ?_
 repeat'(first|refine gO ?_|fail)
 (conv=>whnf)
 refine Lp.mk (ι:=Nat) (fun i=>[(1,.hold .box (bB.enc .imm q)),(6,.hold .one (cC .imm q.Lst)),(7,.hold .one [I (q.Lst.length)]),(8,.hold .one [I ((i:Nat):Int)])]) (fun i=>i<=q.Lst.length/\cH i (js q.Lst)=true) (fun i=>q.Lst.length - i) 0 ?_ ⟨Q0 _,rfl⟩ fun i hi=>?_
 ·exact wB
 obtain⟨hi,ai⟩:=hi;by_cases li:i<q.Lst.length
 ·have hx:=ah li
  have h1:=ze (q.Lst.take i) (nth q.Lst i) (by rw[C1];omega);rw[DN li]at h1;cases e1:js q.Lst i<;>rw[e1]at h1
  all_goals
   repeat'(first|refine gD ?_|(conv=>whnf);first|with_reducible refine Ix.nat (aa hx) ?_|refine Sl.pre i rfl (by simp;omega) (fun r hr=>by obtain⟨z,-,rfl⟩:=P3.1 hr;rfl) (I3 ..) ?_|refine Cl.mk h1 ?_)
   all_goals first
    | exact R0 (fun z=>[B z]) ((by symm;unfold eN;rw[cb li e1];rfl))
    | ((conv=>whnf);refine Nx.mk (i+1) ⟨by omega,bJ ai e1⟩ (by omega) ?_;(exact wB))
 ·obtain rfl:i=q.Lst.length:=by omega
  repeat'(first|refine gD ?_|(conv=>whnf);first|with_reducible refine Bf.D (fun hq=>?_) (fun hq=>?_)|refine Cl.mk (aJ _ 0 500) ?_|refine Cl.mk (wF q.Lst hs) ?_)
  all_goals exact R0 (fun z=>[B z]) ((by unfold eN;rw[ai];simp only[Bool.true_and];first|(symm;exact P0 (by omega))|exact decide_eq_decide.2 (by omega)))
def eZ (us:List Bool):Nat->Int
 | 0=>0
 | i+1=>eZ us i+(if nth us i then 1 else 0)
def cG (f:aQ):Int:=if cq f then eZ f.Used f.Used.length else 0
theorem xV {us:List Bool} {i:Nat} (h:nth us i=true):eZ us (i+1)=eZ us i+1:=by show eZ us i+(if nth us i then 1 else 0)=_;rw[h];rfl
theorem wx {us:List Bool} {i:Nat} (h:nth us i=false):eZ us (i+1)=eZ us i:=by show eZ us i+(if nth us i then 1 else 0)=_;rw[h];simp
theorem tj (f:aQ) (hs:aQ.sml f):ao Tryz.prog 17 false [.val (some 2) (aQ.enc .imm f)] .one [I (cG f)]:=by
 have hu:f.Used.length<=1048576:=hs.2;have hf:=oT f hs;cases h1:cq f<;>rw[h1]at hf
 ·refine fO 24 [] Tryz.func17 rfl ?_
  repeat'(first|refine gO ?_|fail)
  (conv=>whnf)
  refine Lp.mk (ι:=Nat) (fun i=>[(1,.hold .box (aQ.enc .imm f)),(3,.hold .one [I ((0:Int))]),(4,.hold .one [I ((i:Nat):Int)])]) (fun i=>i=0) (fun i=>i) (0) ?_ (rfl) fun i hi=>?_
  ·exact wB
  subst hi
  repeat'(first|refine gO ?_|(conv=>whnf);first|with_reducible refine Bf.D (fun hq=>?_) (fun hq=>?_)|refine Cl.mk hf ?_)
  all_goals exact R0 (fun z=>[I z]) (by unfold cG;rw[h1];rfl)
 ·refine fO 24 [] Tryz.func17 rfl ?_
  repeat'(first|refine gO ?_|fail)
  (conv=>whnf)
  refine Lp.mk (ι:=Nat) (fun i=>[(1,.hold .box (aQ.enc .imm f)),(3,.hold .one [I (eZ f.Used i)]),(4,.hold .one [I ((i:Nat):Int)])]) (fun i=>i<=f.Used.length/\0<=eZ f.Used i/\eZ f.Used i<=i) (fun i=>f.Used.length - i) (0) ?_ (⟨Q0 _,by simp[eZ],by simp[eZ]⟩) fun i hi=>?_
  ·exact wB
  obtain⟨hi,s0,s1⟩:=hi;by_cases li:i<f.Used.length
  ·have hx:=ah li
   cases hb:nth f.Used i<;>rw[hb]at hx
   ·have hst:=wx hb
    repeat'(first|refine gD ?_|(conv=>whnf);first|with_reducible refine Ix.nat (aa hx) ?_|refine Cl.mk hf ?_)
    ((conv=>whnf);refine Nx.mk (i+1) ⟨by omega,by omega,by omega⟩ (by omega) ?_)
    rw[hst];exact wB
   ·have hst:=xV hb
    repeat'(first|refine gD ?_|(conv=>whnf);first|with_reducible refine Ix.nat (aa hx) ?_|refine Cl.mk hf ?_)
    ((conv=>whnf);refine Nx.mk (i+1) ⟨by omega,by omega,by omega⟩ (by omega) ?_)
    rw[hst];exact wB
  ·obtain rfl:i=f.Used.length:=by omega
   repeat'(first|refine gD ?_|(conv=>whnf);first|refine Cl.mk hf ?_)
   exact R0 (fun z=>[I z]) (by unfold cG;rw[h1];rfl)
theorem tG (f:aQ) (hs:aQ.sml f):ao Tryz.prog 64 false [.val (some 2) (aQ.enc .imm f)] .one [I (cG f)]:=by
 have hu:f.Used.length<=1048576:=hs.2;have hf:=oZ f hs;cases h1:cq f<;>rw[h1]at hf
 ·refine fO 21 [] Tryz.func64 rfl ?_
  repeat'(first|refine gO ?_|(conv=>whnf);first|refine Cl.mk hf ?_)
  all_goals exact R0 (fun z=>[I z]) (by unfold cG;rw[h1];rfl)
 ·refine fO 21 [] Tryz.func64 rfl ?_
  repeat'(first|refine gO ?_|(conv=>whnf);first|refine Cl.mk hf ?_)
  (conv=>whnf)
  refine Lp.mk (ι:=Nat) (fun i=>[(3,.hold .one [I (eZ f.Used i)]),(10,.hold .one (w6 .imm f.Used)),(11,.hold .one [I (f.Used.length)]),(12,.hold .one [I ((i:Nat):Int)])]) (fun i=>i<=f.Used.length/\0<=eZ f.Used i/\eZ f.Used i<=i) (fun i=>f.Used.length - i) (0) ?_ (⟨Q0 _,by simp[eZ],by simp[eZ]⟩) fun i hi=>?_
  ·exact wB
  obtain⟨hi,s0,s1⟩:=hi;by_cases li:i<f.Used.length
  ·have hx:=ah li
   cases hb:nth f.Used i<;>rw[hb]at hx
   ·have hst:=wx hb
    repeat'(first|refine gD ?_|(conv=>whnf);first|with_reducible refine Ix.nat (aa hx) ?_)
    ((conv=>whnf);refine Nx.mk (i+1) ⟨by omega,by omega,by omega⟩ (by omega) ?_)
    rw[hst];exact wB
   ·have hst:=xV hb
    repeat'(first|refine gD ?_|(conv=>whnf);first|with_reducible refine Ix.nat (aa hx) ?_)
    ((conv=>whnf);refine Nx.mk (i+1) ⟨by omega,by omega,by omega⟩ (by omega) ?_)
    rw[hst];exact wB
  ·obtain rfl:i=f.Used.length:=by omega
   repeat'(first|refine gD ?_|fail)
   exact R0 (fun z=>[I z]) (by unfold cG;rw[h1];rfl)
def wY (h:ab):Prop:=aE.sml h.Kernel.Machine.Table
theorem g9 (h:ab) (p:Int) (hs:wY h):ao Tryz.prog 36 false [.val (some 24) (ab.enc .imm h),.val none [I p]] .one (aF .own (aS h p)):=by
 refine fO 23 [] Tryz.func36 rfl ?_ (.inr (bK _))
 repeat'((conv=>whnf);first|with_reducible (first|refine Lm ?_|refine Wm (by omega) ?_|refine Bf.E (fun hq=>?_) (fun hq=>?_)|refine Bn ?_|refine i6.wk rfl ?_)|refine Bt ?_|refine Bu ?_|refine Cl.mk (cP h.Kernel.Machine.Table p hs) ?_|refine Cl.mk (fZ h.Kernel.Machine.Table _ hs) ?_)
 all_goals(unfold aS;first|rw[if_pos (by assumption)]|rw[if_neg (by assumption)])
 all_goals exact⟨rfl,trivial⟩
theorem t6 (h:ab) (p:Int) (hs:wY h):ao Tryz.prog 26 false [.val (some 24) (ab.enc .imm h),.val none [I p]] .one (aF .own (aS h p)):=by
 refine fO 22 [] Tryz.func26 rfl ?_ (.inr (bK _))
 repeat'((conv=>whnf);first|with_reducible (first|refine Lm ?_|refine Wm (by omega) ?_|refine Bf.E (fun hq=>?_) (fun hq=>?_)|refine Bn ?_|refine i6.wk rfl ?_)|refine Bt ?_|refine Bu ?_|refine Cl.mk (jL h.Kernel.Machine.Table p hs) ?_|refine Cl.mk (jh h.Kernel.Machine.Table _ hs) ?_)
 all_goals(unfold aS;first|rw[if_pos (by assumption)]|rw[if_neg (by assumption)])
 all_goals exact⟨rfl,trivial⟩
theorem sA (k:af) (p:Int) (hs:aE.sml k.Machine.Table):ao Tryz.prog 163 false [.val (some 5) (af.enc .imm k),.val none [I p]] .one [B (decide ((ar k.Machine.Table p).Mode≠0))]:=by
 refine fO 12 [] Tryz.func163 rfl ?_
 repeat'(first|refine gO ?_|(conv=>whnf);first|refine Cl.mk (jL k.Machine.Table p hs) ?_)
 exact R0 (fun z=>[B z]) ((by rw[V3];simp))
theorem mR (z:Int):ao Tryz.prog 75 false [.val none [I z]] .one [B (decide (0<=z/\z<=1073741823))]:=by
 refine fO 5 [] Tryz.func75 rfl ?_
 repeat'(first|refine gO ?_|(conv=>whnf);first|refine Cl.mk (aJ z 0 1073741823) ?_)
 rfl
theorem iJ (h:ab) (p:Int) (hl:h.Spans.length<=1048576):ao Tryz.prog 39 false [.val (some 24) (ab.enc .imm h),.val none [I p]] .one [I (fV h p)]:=by
 refine fO 22 [] Tryz.func39 rfl ?_
 repeat'(first|refine gO ?_|fail)
 (conv=>whnf)
 refine Lp.mk (ι:=Nat) (fun i=>[(1,.hold .one [I (p)]),(2,.hold .box (ab.enc .imm h)),(5,.hold .one [I ((i:Nat):Int)])]) (fun i=>i<=h.Spans.length/\∀ (j:Nat) (z:au),j<i->h.Spans[j]? = some z->ja p z=false) (fun i=>h.Spans.length - i) (0) ?_ (⟨Q0 _,fun j z hj=>by omega⟩) fun i hi=>?_
 ·exact wB
 obtain⟨hi,ai⟩:=hi;by_cases li:i<h.Spans.length
 ·have hx:=ah li
  repeat'(first|refine gD ?_|(conv=>whnf);first|with_reducible (first|refine Ix.nat (aa hx) ?_|refine Bf.E (fun hq=>?_) (fun hq=>?_)))
  all_goals first
   | exact R0 (fun z=>[I z]) (dR hx (O0 (by assumption)) ai).symm
   | ((conv=>whnf);refine Nx.mk (i+1) ⟨by omega,dl hx (P0 (by assumption)) ai⟩ (by omega) ?_;(exact wB))
 ·repeat'(first|refine gD ?_|fail)
  exact R0 (fun z=>[I z]) (gr (by omega) ai).symm
theorem yt (s:au) (p:Int):ao Tryz.prog 100 false [.val (some 3) (au.enc .imm s),.ptr [I p]] .one [B (ja p s)]:=by
 refine fO 8 [] Tryz.func100 rfl ?_
 repeat'(first|refine gO ?_|fail)
 exact R0 (fun z=>[B z]) ((by unfold ja;rw[V3];simp))
theorem sX (h:ab) (p:Int) (hl:h.Spans.length<=1048576):ao Tryz.prog 27 false [.val (some 24) (ab.enc .imm h),.val none [I p]] .one [I (fV h p)]:=by
 refine fO 9 [] Tryz.func27 rfl ?_
 repeat'(first|refine gO ?_|(conv=>whnf);first|refine Cq.mk (D4 (some 3) (au.enc .imm) (ja p) h.Spans) (yt default p).has (fun L k rcs hQ=>?_) ?_|refine Cl.mk (uq h.Spans (ja p) (by omega)) ?_)
 ·obtain⟨y,-,rfl,rfl,rfl⟩:=hQ
  exact yt y p
 ·rfl
def flight1 (m:aH) (i:Nat):List Int:=(m.Buffers.take i).flatMap fun l=>l.map (·.Addr)
def flight2 (m:aH) (i:Nat):List Int:=(m.Inbox.take i).flatten
theorem lR {m:aH} {i:Nat} {l:List cS} (h:m.Buffers[i]? = some l):flight1 m (i+1)=flight1 m i++l.map (·.Addr):=by
 unfold flight1;rw[List.take_add_one,h,List.flatMap_append];simp
theorem mr {m:aH} {i:Nat} {l:List Int} (h:m.Inbox[i]? = some l):flight2 m (i+1)=flight2 m i++l:=by
 unfold flight2;rw[List.take_add_one,h,List.flatten_append];simp
theorem mN {m:aH} (h:bC m=true):aL m=flight1 m m.Buffers.length++flight2 m m.Inbox.length:=by
 unfold aL flight1 flight2;rw[if_pos h,List.take_length,List.take_length]
theorem sK {m:aH} (h:bC m=false):aL m=[]:=by
 unfold aL;rw[h];rfl
theorem jr {m:aH} (h:bC m=true):1<=m.Buffers.length/\m.Buffers.length<=4/\m.Inbox.length=m.Buffers.length:=by
 unfold bC at h;simp only[I0,C0]at h;exact h.1.1
theorem B7 {l:List Int} : ∀ r∈l.map (rI .imm),r.length=1:=by
 intro r hr;obtain⟨z,-,rfl⟩:=P3.1 hr;rfl
theorem FD {l:List Int} : ∀ r∈l.map (rI .imm),aW r=true:=by
 intro r hr;obtain⟨z,-,rfl⟩:=P3.1 hr;rfl
theorem x3 (m:aH) (hs:aH.sml m):ao Tryz.prog 277 false [.val (some 2) (aH.enc .imm m)] .one (aF .own (aL m)):=by
 have h1:=kb m hs;cases e1:bC m<;>rw[e1]at h1
 ·refine fO 56 [] Tryz.func277 rfl ?_ (.inr (bK _))
  repeat'((conv=>whnf);first|with_reducible (first|refine Lm ?_|refine Wm (by omega) ?_|refine Bn ?_|refine i6.wk rfl ?_)|refine Bt ?_|refine Bu ?_|refine Cl.mk h1 ?_)
  all_goals(rw[sK e1];exact⟨rfl,trivial⟩)
 ·obtain⟨n1,n2,n3⟩:=jr e1
  refine fO 56 [] Tryz.func277 rfl ?_ (.inr (bK _))
  repeat'(first|refine gO ?_|(conv=>whnf);first|refine Cl.mk h1 ?_)
  (conv=>whnf)
  refine Lp.mk (ι:=Nat × List Int) (fun i=>[(1,.hold .box (aH.enc .imm m)),(3,.hold .one (aF .own i.2)),(4,.hold .one [I ((i.1:Nat):Int)])]) (fun i=>i.1<=m.Buffers.length/\i.2=flight1 m i.1/\i.2.length<=1048576*i.1) (fun i=>m.Buffers.length - i.1) ((0,[])) ?_ (⟨Q0 _,rfl,Q0 _⟩) fun i hi=>?_
  ·exact wB
  obtain⟨i,S⟩:=i;obtain⟨hi,hS,hb⟩:=hi;simp only at hi hS hb |-;by_cases li:i<m.Buffers.length
  ·have hx:=ah li
   have hb1:(nth m.Buffers i).length<=1048576:=(hs.1.2 _ (am li)).1
   repeat'(first|refine gD ?_|(conv=>whnf);first|with_reducible refine Ix.nat (aa hx) ?_)
   (conv=>whnf)
   refine Lp.mk (ι:=Nat × List Int) (fun k=>[(1,.hold .box (aH.enc .imm m)),(3,.hold .one (aF .own k.2)),(4,.hold .one [I ((i:Nat):Int)]),(5,.hold .one [I ((k.1:Nat):Int)])]) (fun k=>k.1<=(nth m.Buffers i).length/\k.2=S++((nth m.Buffers i).take k.1).map (·.Addr)) (fun k=>(nth m.Buffers i).length - k.1) ((0,S)) ?_ (⟨Q0 _,by simp⟩) fun k hk=>?_
   ·exact wB
   obtain⟨k,S'⟩:=k;obtain⟨hk,hS'⟩:=hk;simp only at hk hS' |-;have hl':S'.length=S.length+k:=by rw[hS',P2,U0,C1];omega
   by_cases lk:k<(nth m.Buffers i).length
   ·have hz:=ah lk
    repeat'(first|refine gD ?_|(conv=>whnf);first|with_reducible (first|refine Ix.nat (aa hx) ?_|refine Ix.nat (aa hz) ?_)|refine Ap.mk cE (fun r hr=>by rw[X0.1 hr];rfl) (by simp[aW,d5]) (by simp;omega) (by show _*8<=_;simp;omega) rfl ?_)
    ((conv=>whnf)
     refine Nx.mk (k+1,S'++[(nth (nth m.Buffers i) k).Addr]) ⟨(by simp only;omega),(by simp only;rw[hS',List.take_add_one,hz,List.map_append,List.append_assoc];simp)⟩ (by simp only;omega) ?_
     (repeat'(first|exact trivial|rfl|exact And.intro rfl (And.intro (R0 (C.s d3.own) (by simp[rI])) trivial)|refine And.intro ?_ ?_)))
   ·obtain rfl:k=(nth m.Buffers i).length:=by omega
    rw[List.take_length]at hS'
    repeat'(first|refine gD ?_|(conv=>whnf);first|with_reducible refine Ix.nat (aa hx) ?_)
    ((conv=>whnf);refine Nx.mk (i+1,S') ⟨(by simp only;omega),(by simp only;rw[lR hx,<-hS,hS']),(by simp only;omega)⟩ (by simp only;omega) ?_;(exact wB))
  ·obtain rfl:i=m.Buffers.length:=by omega
   repeat'(first|refine gD ?_|fail)
   (conv=>whnf)
   refine Lp.mk (ι:=Nat × List Int) (fun k=>[(1,.hold .box (aH.enc .imm m)),(3,.hold .one (aF .own k.2)),(6,.hold .one [I ((k.1:Nat):Int)])]) (fun k=>k.1<=m.Inbox.length/\k.2=S++flight2 m k.1/\k.2.length<=S.length+1048576*k.1) (fun k=>m.Inbox.length - k.1) ((0,S)) ?_ (⟨Q0 _,by simp[flight2],by simp⟩) fun k hk=>?_
   ·exact wB
   obtain⟨k,S'⟩:=k;obtain⟨hk,hS',hb'⟩:=hk;simp only at hk hS' hb' |-;by_cases lk:k<m.Inbox.length
   ·have hz:=ah lk
    have hb2:(nth m.Inbox k).length<=1048576:=hs.2.2 _ (am lk)
    repeat'(first|refine gD ?_|(conv=>whnf);first|with_reducible refine Ix.nat (aa hz) ?_|refine Ap.mk cE B7 (fun _=>FD) (by simp;omega) (by show _*8<=_;simp;omega) rfl ?_)
    ((conv=>whnf)
     refine Nx.mk (k+1,S'++nth m.Inbox k) ⟨(by simp only;omega),(by simp only;rw[mr hz,hS',List.append_assoc]),(by simp only;rw[P2];omega)⟩ (by simp only;omega) ?_
     (repeat'(first|exact trivial|rfl|exact And.intro rfl (And.intro (R0 (C.s d3.own) (by simp[rI])) trivial)|refine And.intro ?_ ?_)))
   ·obtain rfl:k=m.Inbox.length:=by omega
    repeat'(first|refine gD ?_|fail)
    rw[mN e1,<-hS,<-hS'];rfl
theorem wV (m:aH) (hs:aH.sml m):ao Tryz.prog 78 false [.val (some 2) (aH.enc .imm m)] .one (aF .own (aL m)):=by
 have h1:=sC m hs;cases e1:bC m<;>rw[e1]at h1
 ·refine fO 46 [] Tryz.func78 rfl ?_ (.inr (bK _))
  repeat'((conv=>whnf);first|with_reducible (first|refine Lm ?_|refine Wm (by omega) ?_|refine Bn ?_|refine i6.wk rfl ?_)|refine Bt ?_|refine Bu ?_|refine Cl.mk h1 ?_)
  all_goals(rw[sK e1];exact⟨rfl,trivial⟩)
 ·obtain⟨n1,n2,n3⟩:=jr e1
  refine fO 46 [] Tryz.func78 rfl ?_ (.inr (bK _))
  repeat'(first|refine gO ?_|(conv=>whnf);first|refine Cl.mk h1 ?_)
  (conv=>whnf)
  refine Lp.mk (ι:=Nat × List Int) (fun i=>[(1,.hold .box (aH.enc .imm m)),(3,.hold .one (aF .own i.2)),(15,.hold .one (v7 .imm m.Buffers)),(16,.hold .one [I (m.Buffers.length)]),(17,.hold .one [I ((i.1:Nat):Int)])]) (fun i=>i.1<=m.Buffers.length/\i.2=flight1 m i.1/\i.2.length<=1048576*i.1) (fun i=>m.Buffers.length - i.1) ((0,[])) ?_ (⟨Q0 _,rfl,Q0 _⟩) fun i hi=>?_
  ·exact wB
  obtain⟨i,S⟩:=i;obtain⟨hi,hS,hb⟩:=hi;simp only at hi hS hb |-;by_cases li:i<m.Buffers.length
  ·have hx:=ah li
   have hb1:(nth m.Buffers i).length<=1048576:=(hs.1.2 _ (am li)).1
   repeat'(first|refine gD ?_|(conv=>whnf);first|with_reducible refine Ix.nat (aa hx) ?_)
   (conv=>whnf)
   refine Lp.mk (ι:=Nat × List Int) (fun k=>[(1,.hold .box (aH.enc .imm m)),(3,.hold .one (aF .own k.2)),(15,.hold .one (v7 .imm m.Buffers)),(16,.hold .one [I (m.Buffers.length)]),(17,.hold .one [I ((i:Nat):Int)]),(21,.hold .one (cA .imm (nth m.Buffers i))),(22,.hold .one [I ((nth m.Buffers i).length)]),(23,.hold .one [I ((k.1:Nat):Int)])]) (fun k=>k.1<=(nth m.Buffers i).length/\k.2=S++((nth m.Buffers i).take k.1).map (·.Addr)) (fun k=>(nth m.Buffers i).length - k.1) ((0,S)) ?_ (⟨Q0 _,by simp⟩) fun k hk=>?_
   ·exact wB
   obtain⟨k,S'⟩:=k;obtain⟨hk,hS'⟩:=hk;simp only at hk hS' |-;have hl':S'.length=S.length+k:=by rw[hS',P2,U0,C1];omega
   by_cases lk:k<(nth m.Buffers i).length
   ·have hz:=ah lk
    repeat'(first|refine gD ?_|(conv=>whnf);first|with_reducible refine Ix.nat (aa hz) ?_|refine Ap.mk cE (fun r hr=>by rw[X0.1 hr];rfl) (by simp[aW,d5]) (by simp;omega) (by show _*8<=_;simp;omega) rfl ?_)
    ((conv=>whnf)
     refine Nx.mk (k+1,S'++[(nth (nth m.Buffers i) k).Addr]) ⟨(by simp only;omega),(by simp only;rw[hS',List.take_add_one,hz,List.map_append,List.append_assoc];simp)⟩ (by simp only;omega) ?_
     (repeat'(first|exact trivial|rfl|exact And.intro rfl (And.intro (R0 (C.s d3.own) (by simp[rI])) trivial)|refine And.intro ?_ ?_)))
   ·obtain rfl:k=(nth m.Buffers i).length:=by omega
    rw[List.take_length]at hS'
    repeat'(first|refine gD ?_|fail)
    ((conv=>whnf);refine Nx.mk (i+1,S') ⟨(by simp only;omega),(by simp only;rw[lR hx,<-hS,hS']),(by simp only;omega)⟩ (by simp only;omega) ?_;(exact wB))
  ·obtain rfl:i=m.Buffers.length:=by omega
   repeat'(first|refine gD ?_|fail)
   (conv=>whnf)
   refine Lp.mk (ι:=Nat × List Int) (fun k=>[(3,.hold .one (aF .own k.2)),(35,.hold .one (ix .imm m.Inbox)),(36,.hold .one [I (m.Inbox.length)]),(37,.hold .one [I ((k.1:Nat):Int)])]) (fun k=>k.1<=m.Inbox.length/\k.2=S++flight2 m k.1/\k.2.length<=S.length+1048576*k.1) (fun k=>m.Inbox.length - k.1) ((0,S)) ?_ (⟨Q0 _,by simp[flight2],by simp⟩) fun k hk=>?_
   ·exact wB
   obtain⟨k,S'⟩:=k;obtain⟨hk,hS',hb'⟩:=hk;simp only at hk hS' hb' |-;by_cases lk:k<m.Inbox.length
   ·have hz:=ah lk
    have hb2:(nth m.Inbox k).length<=1048576:=hs.2.2 _ (am lk)
    repeat'(first|refine gD ?_|(conv=>whnf);first|with_reducible refine Ix.nat (aa hz) ?_|refine Ap.mk cE B7 (fun _=>FD) (by simp;omega) (by show _*8<=_;simp;omega) rfl ?_)
    ((conv=>whnf)
     refine Nx.mk (k+1,S'++nth m.Inbox k) ⟨(by simp only;omega),(by simp only;rw[mr hz,hS',List.append_assoc]),(by simp only;rw[P2];omega)⟩ (by simp only;omega) ?_
     (repeat'(first|exact trivial|rfl|exact And.intro rfl (And.intro (R0 (C.s d3.own) (by simp[rI])) trivial)|refine And.intro ?_ ?_)))
   ·obtain rfl:k=m.Inbox.length:=by omega
    repeat'(first|refine gD ?_|fail)
    rw[mN e1,<-hS,<-hS'];rfl
def tbl (h:ab):aE:=h.Kernel.Machine.Table
def dG (h:ab):Nat:=h.Kernel.Machine.Table.Entries.length
def uz (xs:List au) (i:Nat):Bool:=decide (i=0\/(nth xs (i - 1)).Page<(nth xs i).Page)
def vR (xs:List aA) (i:Nat):Bool:=decide (i=0\/(nth xs (i - 1)).Page<(nth xs i).Page)
def uk (h:ab) (l:aA) (k:Nat):Bool:=decide ((aS h (l.Page+(k:Nat))).length=1)
def rM (h:ab) (i:Nat):Bool:=vR h.Larges i&&cH (nth h.Larges i).Pages.toNat (uk h (nth h.Larges i))
def tI (h:ab) (p:Nat):Bool:=decide ((nth (tbl h).Entries p).Mode≠0↔(p:Int)∈pgs h.Spans h.Larges)&&(decide ((nth (tbl h).Entries p).Mode≠0) != h.Free.any (pN (p:Nat)))
def pages0 (h:ab):Bool:=((cH h.Spans.length (uz h.Spans)&&cH h.Larges.length (rM h))&&(pgs h.Spans h.Larges).all fun p=>decide (p<dG h))&&cH (dG h) (tI h)
def kC (h:ab) (i:Nat) (q:Int):Bool:=decide (fV h q=(i:Nat)) || (decide (0<=fV h q)&&meshable (nth h.Spans i) (nth h.Spans (fV h q).toNat))
def qQ (h:ab):Bool:=cH h.Spans.length fun i=>(aS h (nth h.Spans i).Page).all (kC h i)
def j8 (h:ab) (i j:Nat):Bool:=decide ((ar (tbl h) (nth h.Spans i).Page).Frame≠(ar (tbl h) (nth h.Spans j).Page).Frame) || meshable (nth h.Spans i) (nth h.Spans j)
def mC (h:ab):Bool:=cH h.Spans.length fun i=>cH i (j8 h i)
def jT (z:Int) (o:bO):Bool:=decide (o.Id=z)
def jo (h:ab) (o:bO):Bool:=
 let w:=denotes h.Spans h.Larges o.Addr
 decide (w.Offset=0)&&((decide (w.Kind=1)&&decide ((nth h.Spans w.Index.toNat).Class=aN o.Size)) || (decide (w.Kind=3)&&decide ((nth h.Larges w.Index.toNat).Size=o.Size)))
def gz (nx:Int) (h:ab) (i:Nat):Bool:=decide ((i=0\/(nth h.Objs (i - 1)).Addr<(nth h.Objs i).Addr)/\1<=(nth h.Objs i).Id/\(nth h.Objs i).Id<=nx/\0<=(nth h.Objs i).Thread/\(nth h.Objs i).Thread<=h.Caches.length - 1)
def objAt (nx:Int) (h:ab) (i:Nat):Bool:=(gz nx h i&&!(h.Objs.take i).any (jT (nth h.Objs i).Id))&&jo h (nth h.Objs i)
def en (h:ab):Bool:=cH h.Objs.length (objAt (IntKind.i64.wrap (h.Next - 1)) h)
def cW (h:ab) (a c:Int):Bool:=
 let w:=denotes h.Spans h.Larges a
 (decide (w.Kind=1)&&decide (w.Offset=0))&&(decide (c<0) || decide ((nth h.Spans w.Index.toNat).Class=c))
def qA (h:ab) (c:aC) (k:Nat):Bool:=(nth c.Lists k).all fun a=>cW h a (k:Nat)
def dQ (h:ab) (c:aC):Bool:=cH c.Lists.length (qA h c)
def gx (h:ab) (x:aM):Bool:=cW h x.Addr x.Class
def jl (h:ab) (a:Int):Bool:=cW h a (-1)
def ch (h:ab):List Int:=h.Caches.flatMap fun c=>c.Lists.flatten
def fY (h:ab):Bool:=((h.Caches.all (dQ h))&&h.Quar.Lst.all (gx h))&&(aL h.Mail).all (jl h)
def holders (h:ab):List Int:=((h.Objs.map (·.Addr)++ch h)++h.Quar.Lst.map (·.Addr))++aL h.Mail
def jc (sp:List au) (la:List aA) (a:Nat):Bool:=
 let w:=denotes sp la (a:Nat)
 decide (w.Offset=0)&&(decide (w.Kind=1) || decide (w.Kind=3))
def kf (sp:List au) (la:List aA) (n:Nat):List Int:=((List.range n).filter (jc sp la)).map fun(i:Nat)=>(i:Int)
def gH (sp:List au) (la:List aA):List Int:=kf sp la 512
def gV (h:ab):Bool:=(fY h&&decide (holders h).Nodup)&&decide ((holders h).length=(gH h.Spans h.Larges).length)
def kx (h:ab):Bool:=h.Quar.Lst.all fun x=>decide (x.Since<=h.Clock)
def bU (h:ab):Bool:=decide (0<=h.Seed/\h.Seed<=1073741823/\0<=h.Clock/\h.Clock<=1000000/\0<=h.Limit/\h.Limit<=1000/\1<=h.Next/\h.Next<=1000000)
def sU (h:ab):Bool:=if h.Meshing then(iR h.Job&&decide (0<=fV h h.Job.Plan.Keep))&&decide (0<=fV h h.Job.Plan.Move) else qw h.Job
def iV (h:ab):Bool:=((a8 h.Kernel&&bx (dG h) h.Free)&&bg h.Spans h.Larges)&&pages0 h
set_option maxHeartbeats 8000000
theorem cZ {sp:List au} {la:List aA} (h:bg sp la=true):sp.all bf=true/\la.all bS=true/\(pgs sp la).Nodup:=by
 unfold bg at h;simp only[I0,C0]at h;exact⟨h.1.1,h.1.2,h.2⟩
theorem LT {α:Type} [Inhabited α] {xs:List α} {p:α->Bool} {i:Nat} (h:xs.all p=true) (hi:i<xs.length):p (nth xs i)=true:=z3.1 h _ (am hi)
theorem B4 {h:ab} (h1:cH h.Spans.length (uz h.Spans)=false):pages0 h=false:=by unfold pages0;rw[h1];rfl
theorem qp {h:ab} (h1:cH h.Larges.length (rM h)=false):pages0 h=false:=by unfold pages0;rw[h1];simp
theorem AQ {h:ab} {p:Int} (h1:p∈pgs h.Spans h.Larges) (h2:¬p<dG h):pages0 h=false:=by
 have:((pgs h.Spans h.Larges).all fun p=>decide (p<dG h))=false:=List.all_eq_false.2 ⟨p,h1,by simpa using h2⟩;unfold pages0;rw[this];simp
theorem BL {h:ab} (h1:cH (dG h) (tI h)=false):pages0 h=false:=by unfold pages0;rw[h1];simp
theorem vw {h:ab} (h1:cH h.Spans.length (uz h.Spans)=true) (h2:cH h.Larges.length (rM h)=true) (h3:∀ p∈pgs h.Spans h.Larges,p<dG h) (h4:cH (dG h) (tI h)=true):pages0 h=true:=by
 have:((pgs h.Spans h.Larges).all fun p=>decide (p<dG h))=true:=z3.2 fun p hp=>O0 (h3 p hp)
 unfold pages0;rw[h1,h2,h4,this];rfl
theorem Jt {h:ab} {i:Nat} (h1:vR h.Larges i=false):rM h i=false:=by unfold rM;rw[h1];rfl
theorem Kf {h:ab} {i k:Nat} (hk:k<(nth h.Larges i).Pages.toNat) (h1:uk h (nth h.Larges i) k=false):rM h i=false:=by unfold rM;rw[cb hk h1];simp
theorem Dp {h:ab} {i:Nat} (h1:vR h.Larges i=true) (h2:cH (nth h.Larges i).Pages.toNat (uk h (nth h.Larges i))=true):rM h i=true:=by unfold rM;rw[h1,h2];rfl
theorem gn (h:ab) (p:Int):(aS h p).length<=dG h:=by
 unfold aS;split
 ·simp
 ·exact pI ..
theorem se {sp:List au} {la:List aA} (h:bg sp la=true) {i:Nat} {l:aA} (hx:la[i]? = some l):1<=l.Pages/\l.Pages<=63/\0<=l.Page/\l.Page<=31:=
 aV (z3.1 (cZ h).2.1 l (O1 hx))
theorem A2 (h:ab) (hs1:dq h.Spans) (hs2:dt h.Larges) (hst:wY h) (hsf:fT h.Free) (hlay:bg h.Spans h.Larges=true):ao Tryz.prog 204 false [.val (some 24) (ab.enc .imm h)] .one [B (pages0 h)]:=by
 have hl1:=hs1.1;have hl2:=hs2.1;have hl3:dG h<=1048576:=hst.1;have hl4:=hsf.1;refine fO 144 [(7,18,[28,29,30,31,32,33,34,35,36,37,38,39,40,41,42,43,44,45]),(13,18,[62,63,64,65,66,67,68,69,70,71,72,73,74,75,76,77,78,79])] Tryz.func204 rfl ?_
 repeat'(first|refine gO ?_|fail)
 (conv=>whnf)
 refine Lp.mk (ι:=Nat × List Int) (fun i=>[(1,.hold .box (ab.enc .imm h)),(3,.hold .box (aE.enc .imm (tbl h))),(4,.hold .one [I (dG h)]),(5,.hold .one (aF .own i.2)),(6,.hold .one [I ((i.1:Nat):Int)])]) (fun i=>i.1<=h.Spans.length/\i.2=(h.Spans.take i.1).map (·.Page)/\cH i.1 (uz h.Spans)=true) (fun i=>h.Spans.length - i.1) ((0,[])) ?_ (⟨Q0 _,rfl,rfl⟩) fun i hi=>?_
 ·exact wB
 obtain⟨i,S⟩:=i;obtain⟨hi,hS,ai⟩:=hi;simp only at hi hS ai |-;have hSl:S.length=i:=by rw[hS,U0,C1];omega
 by_cases li:i<h.Spans.length
 ·have hx:=ah li
  repeat'(first|refine gD ?_|(conv=>whnf);first|with_reducible (first|refine Ix.nat (aa hx) ?_|refine Bf.D (fun hq=>?_) (fun hq=>?_))|refine Ix.mk (by omega) (aa (f9 (by omega) li)) ?_|refine Ap.mk cE (fun r hr=>by rw[X0.1 hr];rfl) (by simp[aW,d5]) (by simp;omega) (by simp only[U0];exact wK (by simp;omega) (by decide)) rfl ?_)
  all_goals first
   | exact R0 (fun z=>[B z]) ((B4 (cb li (P0 (by omega)))).symm)
   | ((conv=>whnf)
      refine Nx.mk (i+1,S++[(nth h.Spans i).Page]) ⟨(by simp only;omega),(by simp only;rw[hS,List.take_add_one,hx];simp),bJ ai (O0 (by omega))⟩ (by simp only;omega) ?_
      (repeat'(first|exact trivial|rfl|exact And.intro rfl (And.intro (R0 (C.s d3.own) (by simp[rI])) trivial)|refine And.intro ?_ ?_)))
 ·obtain rfl:i=h.Spans.length:=by omega
  rw[List.take_length]at hS
  repeat'(first|refine gD ?_|fail)
  (conv=>whnf)
  refine Lp.mk (ι:=Nat × List Int) (fun k=>[(1,.hold .box (ab.enc .imm h)),(3,.hold .box (aE.enc .imm (tbl h))),(4,.hold .one [I (dG h)]),(5,.hold .one (aF .own k.2)),(7,.hold .one [I ((k.1:Nat):Int)])]) (fun k=>k.1<=h.Larges.length/\k.2=pgs h.Spans (h.Larges.take k.1)/\cH k.1 (rM h)=true/\k.2.length<=1048576+64*k.1) (fun k=>h.Larges.length - k.1) ((0,S)) ?_ (⟨Q0 _,by rw[hS];unfold pgs;simp,rfl,by simp only;omega⟩) fun k hk=>?_
  ·exact wB
  obtain⟨k,S2⟩:=k;obtain⟨hk,hS2,ak,hb2⟩:=hk;simp only at hk hS2 ak hb2 |-;by_cases lk:k<h.Larges.length
  ·have hx:=ah lk
   have hpg:=se hlay hx
   repeat'(first|refine gD ?_|(conv=>whnf);first|with_reducible (first|refine Ix.nat (aa hx) ?_|refine Bf.D (fun hq=>?_) (fun hq=>?_))|refine Ix.mk (by omega) (aa (f9 (by omega) lk)) ?_)
   all_goals first
    | exact R0 (fun z=>[B z]) ((qp (cb lk (Jt (P0 (by omega))))).symm)
    |have hsort:vR h.Larges k=true:=O0 (by omega)
     (conv=>whnf)
     refine Lp.mk (ι:=Nat × List Int) (fun q=>[(1,.hold .box (ab.enc .imm h)),(3,.hold .box (aE.enc .imm (tbl h))),(4,.hold .one [I (dG h)]),(5,.hold .one (aF .own q.2)),(7,.hold .one [I ((k:Nat):Int)]),(8,.hold .one [I ((q.1:Nat):Int)])]) (fun q=>q.1<=(nth h.Larges k).Pages.toNat/\q.2=S2++lpgs (nth h.Larges k) q.1/\cH q.1 (uk h (nth h.Larges k))=true) (fun q=>(nth h.Larges k).Pages.toNat - q.1) ((0,S2)) ?_ (⟨Q0 _,by simp[lpgs],rfl⟩) fun q hq=>?_
     ·exact wB
     obtain⟨q,S3⟩:=q;obtain⟨hq1,hS3,aq⟩:=hq;simp only at hq1 hS3 aq |-;have hl3':S3.length=S2.length+q:=by rw[hS3,P2,AJ]
     by_cases lq:q<(nth h.Larges k).Pages.toNat
     ·have hfl:=gn h ((nth h.Larges k).Page+(q:Nat))
      repeat'(first|refine gD ?_|(conv=>whnf);first|with_reducible (first|refine Ix.nat (aa hx) ?_|refine Bf.N (fun hq=>?_) (fun hq=>?_))|refine Cl.mk (g9 h _ hst) ?_|refine Ap.mk cE (fun r hr=>by rw[X0.1 hr];rfl) (by simp[aW,d5]) (by simp;omega) (by show _*8<=_;simp;omega) rfl ?_)
      all_goals first
       | exact R0 (fun z=>[B z]) ((qp (cb lk (Kf lq (P0 (by omega))))).symm)
       | ((conv=>whnf)
          refine Nx.mk (q+1,S3++[(nth h.Larges k).Page+(q:Nat)]) ⟨(by simp only;omega),(by simp only;rw[hS3,jv,List.append_assoc]),bJ aq (O0 (by omega))⟩ (by simp only;omega) ?_
          (repeat'(first|exact trivial|rfl|exact And.intro rfl (And.intro (R0 (C.s d3.own) (by simp[rI])) trivial)|refine And.intro ?_ ?_)))
     ·obtain rfl:q=(nth h.Larges k).Pages.toNat:=by omega
      repeat'(first|refine gD ?_|(conv=>whnf);first|with_reducible refine Ix.nat (aa hx) ?_)
      ((conv=>whnf);refine Nx.mk (k+1,S3) ⟨(by simp only;omega),(by simp only;rw[hS3,hS2,<-mU _ hx]),bJ ak (Dp hsort aq),(by simp only;omega)⟩ (by simp only;omega) ?_;(exact wB))
  ·obtain rfl:k=h.Larges.length:=by omega
   rw[List.take_length]at hS2
   repeat'(first|refine gD ?_|fail)
   (conv=>whnf)
   refine Lp.mk (ι:=Nat) (fun q=>[(1,.hold .box (ab.enc .imm h)),(3,.hold .box (aE.enc .imm (tbl h))),(4,.hold .one [I (dG h)]),(5,.hold .one (aF .own S2)),(10,.hold .one [I ((q:Nat):Int)])]) (fun q=>q<=S2.length/\∀ j,j<q->nth S2 j<dG h) (fun q=>S2.length - q) (0) ?_ (⟨Q0 _,fun j hj=>by omega⟩) fun q hq=>?_
   ·exact wB
   obtain⟨hq,aq⟩:=hq;by_cases lq:q<S2.length
   ·have hx:=ah lq
    repeat'(first|refine gD ?_|(conv=>whnf);first|with_reducible (first|refine Ix.nat (aa hx) ?_|refine Bf.D (fun hq=>?_) (fun hq=>?_))|refine Rw.one rfl (aa hx) rfl ?_)
    all_goals first
     | exact R0 (fun z=>[B z]) ((AQ (by rw[<-hS2];exact am lq) (by omega)).symm)
     | ((conv=>whnf);refine Nx.mk (q+1) ⟨by omega,fun j hj=>by rcases Nat.lt_or_ge j q with h1|h1;exact aq j h1;(obtain rfl:j=q:=by omega);omega⟩ (by omega) ?_;(exact wB))
   ·have hall:∀ p∈pgs h.Spans h.Larges,p<dG h:=fun p hp=>by
     rw[<-hS2]at hp;obtain⟨j,hj⟩:=List.mem_iff_getElem?.1 hp;have h1:=(R1.1 hj).1;have:=aq j (by omega)
     rwa [bq hj]at this
    repeat'(first|refine gD ?_|fail)
    (conv=>whnf)
    refine Lp.mk (ι:=Nat) (fun p=>[(1,.hold .box (ab.enc .imm h)),(3,.hold .box (aE.enc .imm (tbl h))),(4,.hold .one [I (dG h)]),(5,.hold .one (aF .own S2)),(11,.hold .one [I ((p:Nat):Int)])]) (fun p=>p<=dG h/\cH p (tI h)=true) (fun p=>dG h - p) 0 ?_ ⟨Q0 _,rfl⟩ fun p hp=>?_
    ·exact wB
    obtain⟨hp,ap⟩:=hp;by_cases lp:p<dG h
    ·have hx:=ah (xs:=(tbl h).Entries) lp
     have hr:=xk h.Free (p:Nat) (by omega)
     repeat'(first|refine gD ?_|(conv=>whnf);first|with_reducible (first|refine Ix.nat (aa hx) ?_|refine Bf.D (fun hq=>?_) (fun hq=>?_)|refine Bf.NB (fun hq=>?_) (fun hq=>?_))|refine Cl.eq (kW S2 _ (by omega)) ⟨⟨rfl,dZ _⟩,⟨rfl,rfl⟩,trivial⟩ ?_|refine Cl.mk hr ?_|refine Bf.P (fun hq=>?_) (fun hq=>?_))
     all_goals first
      | exact R0 (fun z=>[B z]) ((BL (cb lp (by unfold tI;rw[<-hS2];grind))).symm)
      | ((conv=>whnf);refine Nx.mk (p+1) ⟨by omega,bJ ap (by unfold tI;rw[<-hS2];grind)⟩ (by omega) ?_;(exact wB))
    ·repeat'(first|refine gD ?_|fail)
     obtain rfl:p=dG h:=by omega
     exact R0 (fun z=>[B z]) ((vw ai ak hall ap).symm)
set_option maxHeartbeats 8000000
theorem Br {z1 z2:Int} (h:z1=z2):LO (I z1) (I z2):=by subst h;rfl
theorem Fi {S:List Int} {p z:Int} : z∈ins S p↔z∈S\/z=p:=by
 unfold ins;split
 ·rename_i hp
  exact⟨.inl,fun h=>h.elim id fun e=>e ▸ hp⟩
 ·simp
theorem w7 (S:List Int):(eJ S).map (·.1)=S:=by unfold eJ;rw[List.map_map];simp[Function.comp_def]
theorem kO {t:aE} {p:Nat} (hp:p<t.Entries.length):ar t (p:Nat)=nth t.Entries p:=by
 unfold ar;rw[if_pos (by omega)];simp
theorem z7 (h:ab) (hs1:dq h.Spans) (hs2:dt h.Larges) (hst:wY h) (hsf:fT h.Free) (hlay:bg h.Spans h.Larges=true):ao Tryz.prog 69 false [.val (some 24) (ab.enc .imm h)] .one [B (pages0 h&&mC h)]:=by
 have hl1:=hs1.1;have hl2:=hs2.1;have hl3:dG h<=1048576:=hst.1;have hl4:=hsf.1;have hno:pages0 h=false->[B false]=[B (pages0 h&&mC h)]:=fun e=>by rw[e];rfl
 refine fO 177 [(4,14,[25,26,27,28,29,30,31,32,33,34,35,36,37,38]),(16,14,[60,61,62,63,64,65,66,67,68,69,70,71,72,73]),(28,18,[102,103,104,105,106,107,108,109,110,111,112,113,114,115,116,117,118,119]),(42,23,[152,153,154,155,156,157,158,159,160,161,162,163,164,165,166,167,168,169,170,171,172,173,174])] Tryz.func69 rfl ?_
 repeat'(first|refine gO ?_|fail)
 (conv=>whnf)
 refine Lp.mk (ι:=Nat) (fun i=>[(1,.hold .box (ab.enc .imm h)),(18,.hold .one (ci .imm h.Spans)),(19,.hold .one [I (h.Spans.length)]),(20,.hold .one [I ((i:Nat):Int)])]) (fun i=>i<=h.Spans.length/\cH i (uz h.Spans)=true) (fun i=>h.Spans.length - i) 0 ?_ ⟨Q0 _,rfl⟩ fun i hi=>?_
 ·exact wB
 obtain⟨hi,ai⟩:=hi;by_cases li:i<h.Spans.length
 ·have hx:=ah li
  repeat'(first|refine gD ?_|(conv=>whnf);first|with_reducible (first|refine Ix.nat (aa hx) ?_|refine Bf.D (fun hq=>?_) (fun hq=>?_))|refine Ix.mk (by omega) (aa (f9 (by omega) li)) ?_)
  all_goals first
   |exact hno (B4 (cb li (P0 (by omega))))
   | ((conv=>whnf);refine Nx.mk (i+1) ⟨by omega,bJ ai (O0 (by omega))⟩ (by omega) ?_;(exact wB))
 obtain rfl:i=h.Spans.length:=by omega
 repeat'(first|refine gD ?_|fail)
 (conv=>whnf)
 refine Lp.mk (ι:=Nat × List Int) (fun i=>[(1,.hold .box (ab.enc .imm h)),(5,.hold .one [.m (eJ i.2)]),(42,.hold .one (ci .imm h.Spans)),(43,.hold .one [I (h.Spans.length)]),(44,.hold .one [I ((i.1:Nat):Int)])]) (fun i=>i.1<=h.Spans.length/\∀ z,z∈i.2↔z∈(h.Spans.take i.1).map (·.Page)) (fun i=>h.Spans.length - i.1) ((0,[])) ?_ (⟨Q0 _,fun z=>Iff.rfl⟩) fun i hi=>?_
 ·exact wB
 obtain⟨i,S⟩:=i;obtain⟨hi2,hS⟩:=hi;simp only at hi2 hS |-;by_cases li2:i<h.Spans.length
 ·have hx:=ah li2
  repeat'(first|refine gD ?_|(conv=>whnf);first|with_reducible refine Ix.nat (aa hx) ?_|refine Mu.mk (uD S _) ?_)
  ((conv=>whnf);refine Nx.mk (i+1,ins S (nth h.Spans i).Page) ⟨(by simp only;omega),fun z=>by simp only[Fi,hS];rw[List.take_add_one,hx];simp⟩ (by simp only;omega) ?_;(exact wB))
 obtain rfl:i=h.Spans.length:=by omega
 rw[List.take_length]at hS
 repeat'(first|refine gD ?_|fail)
 (conv=>whnf)
 refine Lp.mk (ι:=Nat × List Int) (fun k=>[(1,.hold .box (ab.enc .imm h)),(5,.hold .one [.m (eJ k.2)]),(53,.hold .one (bY .imm h.Larges)),(54,.hold .one [I (h.Larges.length)]),(55,.hold .one [I ((k.1:Nat):Int)])]) (fun k=>k.1<=h.Larges.length/\(∀ z,z∈k.2↔z∈pgs h.Spans (h.Larges.take k.1))/\cH k.1 (rM h)=true) (fun k=>h.Larges.length - k.1) ((0,S)) ?_ (⟨Q0 _,fun z=>by simp only[hS];unfold pgs;simp,rfl⟩) fun k hk=>?_
 ·exact wB
 obtain⟨k,S2⟩:=k;obtain⟨hk,hS2,ak⟩:=hk;simp only at hk hS2 ak |-;by_cases lk:k<h.Larges.length
 ·have hx:=ah lk
  have hpg:=se hlay hx
  repeat'(first|refine gD ?_|(conv=>whnf);first|with_reducible (first|refine Ix.nat (aa hx) ?_|refine Bf.D (fun hq=>?_) (fun hq=>?_))|refine Ix.mk (by omega) (aa (f9 (by omega) lk)) ?_)
  all_goals first
   |exact hno (qp (cb lk (Jt (P0 (by omega)))))
   |have hsort:vR h.Larges k=true:=O0 (by omega)
    (conv=>whnf)
    refine Lp.mk (ι:=Nat × List Int) (fun q=>[(1,.hold .box (ab.enc .imm h)),(5,.hold .one [.m (eJ q.2)]),(9,.hold .box (aA.enc .imm (nth h.Larges k))),(10,.hold .one [I ((nth h.Larges k).Page+(q.1:Nat))]),(53,.hold .one (bY .imm h.Larges)),(54,.hold .one [I (h.Larges.length)]),(55,.hold .one [I ((k:Nat):Int)])]) (fun q=>q.1<=(nth h.Larges k).Pages.toNat/\(∀ z,z∈q.2↔z∈S2++lpgs (nth h.Larges k) q.1)/\cH q.1 (uk h (nth h.Larges k))=true) (fun q=>(nth h.Larges k).Pages.toNat - q.1) ((0,S2)) ?_ (⟨Q0 _,fun z=>by simp[lpgs],rfl⟩) fun q hq=>?_
    ·exact wB
    obtain⟨q,S3⟩:=q;obtain⟨hq1,hS3,aq⟩:=hq;simp only at hq1 hS3 aq |-;by_cases lq:q<(nth h.Larges k).Pages.toNat
    ·have hfl:=gn h ((nth h.Larges k).Page+(q:Nat))
     repeat'(first|refine gD ?_|(conv=>whnf);first|with_reducible refine Bf.N (fun hq=>?_) (fun hq=>?_)|refine Cl.mk (t6 h _ hst) ?_|refine Mu.mk (uD S3 _) ?_)
     all_goals first
      |exact hno (qp (cb lk (Kf lq (P0 (by omega)))))
      | ((conv=>whnf)
         refine Nx.mk (q+1,ins S3 ((nth h.Larges k).Page+(q:Nat))) ⟨(by simp only;omega),fun z=>by simp only[Fi,hS3];rw[jv];simp[or_assoc],bJ aq (O0 (by omega))⟩ (by simp only;omega) ?_
         (repeat'(first|exact trivial|rfl|refine And.intro ?_ ?_|exact Br (by simp;omega))))
    ·obtain rfl:q=(nth h.Larges k).Pages.toNat:=by omega
     repeat'(first|refine gD ?_|fail)
     ((conv=>whnf);refine Nx.mk (k+1,S3) ⟨(by simp only;omega),(fun z=>by simp only[hS3];rw[mU _ hx];simp[hS2]),bJ ak (Dp hsort aq)⟩ (by simp only;omega) ?_;(exact wB))
 obtain rfl:k=h.Larges.length:=by omega
 rw[List.take_length]at hS2
 repeat'(first|refine gD ?_|fail)
 (conv=>whnf)
 refine Lp.mk (ι:=Nat) (fun p=>[(1,.hold .box (ab.enc .imm h)),(5,.hold .one [.m (eJ S2)]),(98,.hold .one [I (dG h)]),(99,.hold .one [I ((p:Nat):Int)])]) (fun p=>p<=dG h/\cH p (tI h)=true) (fun p=>dG h - p) 0 ?_ ⟨Q0 _,rfl⟩ fun p hp=>?_
 ·exact wB
 obtain⟨hp,ap⟩:=hp;by_cases lp:p<dG h
 ·have hr:=xn h.Free (p:Nat) (by omega)
  have hm:=sA h.Kernel (p:Nat) hst;rw[kO lp]at hm
  repeat'(first|refine gD ?_|(conv=>whnf);first|with_reducible (first|refine Bf.D (fun hq=>?_) (fun hq=>?_)|refine Bf.NB (fun hq=>?_) (fun hq=>?_))|refine Cl.mk hm ?_|refine Ml.mk (lA (p:Nat) S2) ?_|refine Cl.mk hr ?_|refine Bf.P (fun hq=>?_) (fun hq=>?_))
  all_goals first
   |exact hno (BL (cb lp (by unfold tI tbl;have:=hS2 (p:Nat);grind)))
   | ((conv=>whnf);refine Nx.mk (p+1) ⟨by omega,bJ ap (by unfold tI tbl;have:=hS2 (p:Nat);grind)⟩ (by omega) ?_;(exact wB))
 obtain rfl:p=dG h:=by omega
 repeat'(first|refine gD ?_|fail)
 have hpn:dG h=h.Kernel.Machine.Table.Entries.length:=rfl
 (conv=>whnf)
 refine Lp.mk (ι:=Option Int × List Int) (fun t=>[(1,.hold .box (ab.enc .imm h)),(122,.hold .one [.it t.1 t.2])]) (fun t=>(∀ z∈S2,z∈t.2\/z<dG h)/\∀ z∈t.2,z∈S2) (fun t=>t.2.length) ((none,(eJ S2).map (·.1))) ?_ (⟨fun z hz=>.inl (by rw[w7];exact hz),fun z hz=>by rw[w7]at hz;exact hz⟩) fun t ht=>?_
 ·exact wB
 obtain⟨cur,left⟩:=t;obtain⟨ht1,ht2⟩:=ht;simp only at ht1 ht2 |-
 repeat'(first|refine gO ?_|(conv=>whnf);first|with_reducible refine Bf.D (fun hq=>?_) (fun hq=>?_)|refine Nt.mk (fun hq=>?_) (fun l1 k l2 hq=>?_))
 rotate_left
 ·exact hno (AQ (p:=k) ((hS2 k).1 (ht2 k (by subst left;simp))) (by omega))
 ·((conv=>whnf);refine Nx.mk (some k,l1++l2) ⟨fun z hz=>by have h1:=ht1 z hz;subst left;simp only[C2,List.mem_cons]at h1 |-;rcases h1 with(h1|h1|h1)|h1;exact .inl (.inl h1);(subst h1;exact .inr (by omega));exact .inl (.inr h1);exact .inr h1,fun z hz=>ht2 z (by subst left;simp only[C2,List.mem_cons]at hz |-;grind)⟩ (by subst left;simp) ?_;(exact wB))
 have hall:∀ p∈pgs h.Spans h.Larges,p<dG h:=fun p hp=>by
  have h1:=ht1 p ((hS2 p).2 hp);subst left;simpa using h1
 have h0:pages0 h=true:=vw ai ak hall ap;rw[h0,Bool.true_and]
 (conv=>whnf)
 refine Lp.mk (ι:=Nat) (fun i=>[(1,.hold .box (ab.enc .imm h)),(136,.hold .one (ci .imm h.Spans)),(137,.hold .one [I (h.Spans.length)]),(138,.hold .one [I ((i:Nat):Int)])]) (fun i=>i<=h.Spans.length/\cH i (fun i=>cH i (j8 h i))=true) (fun i=>h.Spans.length - i) 0 ?_ ⟨Q0 _,rfl⟩ fun i hi=>?_
 ·exact wB
 obtain⟨hi,ai⟩:=hi;by_cases li:i<h.Spans.length
 ·have hx:=ah li
  have htl:(h.Spans.take i).length=i:=by rw[C1];omega
  repeat'(first|refine gD ?_|(conv=>whnf);first|with_reducible refine Ix.nat (aa hx) ?_|refine Sl.pre i rfl (by simp;omega) (fun r hr=>by obtain⟨z,-,rfl⟩:=P3.1 hr;rfl) (I3 ..) ?_)
  (conv=>whnf)
  refine Lp.mk (ι:=Nat) (fun j=>[(1,.hold .box (ab.enc .imm h)),(14,.hold .box (au.enc .imm (nth h.Spans i))),(136,.hold .one (ci .imm h.Spans)),(137,.hold .one [I (h.Spans.length)]),(138,.hold .one [I ((i:Nat):Int)]),(146,.hold .one (ci .imm (h.Spans.take i))),(147,.hold .one [I ((h.Spans.take i).length)]),(148,.hold .one [I ((j:Nat):Int)])]) (fun j=>j<=(h.Spans.take i).length/\cH j (j8 h i)=true) (fun j=>(h.Spans.take i).length - j) 0 ?_ ⟨Q0 _,rfl⟩ fun j hj=>?_
  ·exact wB
  obtain⟨hj,aj⟩:=hj;by_cases lj:j<(h.Spans.take i).length
  ·have hy:=ah lj
   have he:nth (h.Spans.take i) j=nth h.Spans j:=bq (by rw[List.getElem?_take_of_lt (by omega)];exact ah (by omega));rw[he]at hy;have hm:=xo (nth h.Spans i) (nth h.Spans j);cases em:meshable (nth h.Spans i) (nth h.Spans j)<;>rw[em]at hm
   all_goals
    repeat'(first|refine gD ?_|(conv=>whnf);first|with_reducible (first|refine Ix.nat (aa hy) ?_|refine Bf.E (fun hq=>?_) (fun hq=>?_))|refine Cl.mk (jL (tbl h) _ hst) ?_|refine Cl.mk hm ?_)
    all_goals first
     | exact R0 (fun z=>[B z]) ((by symm;exact cb li (cb (i:=j) (by omega) (by unfold j8;rw[em];grind))))
     | ((conv=>whnf);refine Nx.mk (j+1) ⟨by omega,bJ aj (by unfold j8;rw[em];grind)⟩ (by omega) ?_;(exact wB))
  ·obtain rfl:j=(h.Spans.take i).length:=by omega
   rw[htl]at aj
   repeat'(first|refine gD ?_|fail)
   ((conv=>whnf);refine Nx.mk (i+1) ⟨by omega,bJ ai aj⟩ (by omega) ?_;(exact wB))
 obtain rfl:i=h.Spans.length:=by omega
 repeat'(first|refine gD ?_|fail)
 exact R0 (fun z=>[B z]) ((by unfold mC;rw[ai]))
end Go.Proofs.YtembpgjjnioagaaGreat.Ab
