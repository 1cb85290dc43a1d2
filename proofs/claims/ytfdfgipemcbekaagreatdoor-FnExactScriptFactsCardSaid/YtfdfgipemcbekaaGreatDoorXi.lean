/- impl.ParseAct: what it hands back, for every string. -/
import Derived.Test.YtfdfgipemcbekaaGreatDoorActW
import Derived.Test.YtfdfgipemcbekaaGreatDoorNum
namespace Go.Proofs.YtfdfgipemcbekaaGreatDoor.PaI
open Go.RowKit Mm Ac AcW Sp Tx
set_option maxRecDepth 100000
abbrev Agg (z:List Int):Value:=.agg #[I (gI z 0),I (gI z 1),I (gI z 2),I (gI z 3),I (gI z 4)]
theorem Blk.set5 {w:World} {g:Nat} {t:TypeId} {a b c d e:Value} (h:Blk w g t #[a,b,c,d,e]) (x0 x1 x2 x3 x4:Value) :
    Blk (((((w.setCell ⟨g,0,none⟩ x0).setCell ⟨g,1,none⟩ x1).setCell ⟨g,2,none⟩ x2).setCell ⟨g,3,none⟩ x3).setCell ⟨g,4,none⟩ x4) g t #[x0,x1,x2,x3,x4]:=
  ((((h.set_ 0 x0).set_ 1 x1).set_ 2 x2).set_ 3 x3).set_ 4 x4
theorem load_act (w:World) (g:Nat) (x0 x1 x2 x3 x4:Int) (hb:Blk w g 88 #[I x0,I x1,I x2,I x3,I x4]):(loadVar 88 ⟨g,0,none⟩).run Tryz.prog w=.ok (.agg #[I x0,I x1,I x2,I x3,I x4]) w:=by
  have b0:w.cell? ⟨g,0,none⟩ = some (I x0):=hb.cell 0
  have b1:w.cell? ⟨g,1,none⟩ = some (I x1):=hb.cell 1
  have b2:w.cell? ⟨g,2,none⟩ = some (I x2):=hb.cell 2
  have b3:w.cell? ⟨g,3,none⟩ = some (I x3):=hb.cell 3
  have b4:w.cell? ⟨g,4,none⟩ = some (I x4):=hb.cell 4
  simp[go_sem,b0,b1,b2,b3,b4]
theorem ret_act {fn:Func} {p u:Tmp} (h:fn.results = #[.cell p 88,.tmp u]) {tmps:Array Value} {w:World} {g:Nat} {x0 x1 x2 x3 x4:Int} (hp:tmps.getD p undef=.pointer (some ⟨g,0,none⟩)) (hb:Blk w g 88 #[I x0,I x1,I x2,I x3,I x4]) :
    (results fn tmps).run Tryz.prog w=.ok (.tuple #[.agg #[I x0,I x1,I x2,I x3,I x4],tmps.getD u undef]) w:=by
  rw[results_cell_tmp h,hp]
  simp[asAddr,load_act w g x0 x1 x2 x3 x4 hb]
def ARet (s:ByteArray) (w:World) (e:Ending) (w':World):Prop:=
  ((∃ z,IsAct s z∧e=.returned (.tuple #[Agg z,.bool true]))∨((∀ z,¬IsAct s z)∧e=.returned (.tuple #[Agg [],.bool false])))∧Below w.heap.size w w'
theorem aret_no {s:ByteArray} {w w':World} (h:∀ z,¬IsAct s z) (hb:Below w.heap.size w w'):ARet s w (.returned (.tuple #[Agg [],.bool false])) w':=⟨.inr ⟨h,rfl⟩,hb⟩
theorem own_cells {w:World} {base n c:Nat} {e:TypeId} {A:Option Addr} {xs:List Value} (h:w.ownsRow base e 1 (.slice A n c) n xs) (hn:0<n):∃ g,A=some ⟨g,0,none⟩∧g<w.heap.size∧∀ i v,xs[i]? = some v→w.cell? ⟨g,i,none⟩ = some v:=by
  rcases h.2 with⟨_,h0⟩|⟨g,cap,cur,hv,_,hh,_⟩
  · omega
  · injection hv with hA _ _
    subst hA
    refine⟨g,rfl,(Array.getElem?_eq_some_iff.1 hh).1,fun i v hi=>?_⟩
    have:=h.cells (g:=g) rfl i v hi
    have hadd:(⟨g,0,none⟩ : Addr).add i = ⟨g,i,none⟩:=by unfold Addr.add;split<;>simp_all
    rwa [hadd]at this
def SplitOk (s:ByteArray) (w0:World):Prop:=∀ w,Below w0.heap.size w0 w→Calls Tryz.prog 72 #[.string s] w fun e w'=>
    (LineOk s∧∃ A c,e=.returned (.tuple #[.slice A (fields s).length c,.bool true])∧(0<(fields s).length→∃ g,A=some ⟨g,0,none⟩∧g<w'.heap.size∧∀ i v,((fields s).map Value.string)[i]? = some v→w'.cell? ⟨g,i,none⟩ = some v)∧Below w.heap.size w w')∨
    (¬LineOk s∧∃ A c,e=.returned (.tuple #[.slice A 0 c,.bool false])∧Below w.heap.size w w')
def vO (r:ByteArray):Int:=(valL r.data.toList:Nat)
theorem field_size (s f:ByteArray) (h:f∈fields s):f.size≤s.size:=by
  obtain⟨p,hp,rfl⟩:=List.mem_map.1 h
  have h1:=spans_mem s p hp
  unfold cut
  rw[ByteArray.size_extract]
  omega
theorem impl_yes (s:ByteArray) (w:World) (hs:s.size≤maxLen) (h:Canon s.data.toList):Calls Tryz.prog 139 #[.string s] w fun e w'=>e=.returned (.tuple #[.int .i64 (vO s),.bool true])∧Below w.heap.size w w':=
  (Nm.impl_parse s w hs).mono fun e w' ⟨he,hb⟩=>⟨by rw[he];unfold pN pB vO;rw[if_pos h,decide_eq_true h],hb⟩
theorem impl_no (s:ByteArray) (w:World) (hs:s.size≤maxLen) (h:¬Canon s.data.toList):Calls Tryz.prog 139 #[.string s] w fun e w'=>e=.returned (.tuple #[.int .i64 0,.bool false])∧Below w.heap.size w w':=
  (Nm.impl_parse s w hs).mono fun e w' ⟨he,hb⟩=>⟨by rw[he];unfold pN pB;rw[if_neg h,decide_eq_false h],hb⟩
theorem ne_word' (f g:ByteArray) (h:g≠f):(f.toList == g.toList)=false:=by
  rw[beq_eq_false_iff_ne]
  intro e
  refine h (ByteArray.ext ?_)
  rw[ByteArray.toList_eq,ByteArray.toList_eq]at e
  exact(Array.toList_inj.1 e).symm
theorem grown_tr {a b c:World} {row:Option Nat} (h:a.grownBy b row) (k:b.grownBy c row):a.grownBy c row:=
  ⟨k.os.trans h.os,k.tape.trans h.tape,k.output.trans h.output,Nat.le_trans h.size k.size,fun i hi hne=>(k.block i (Nat.lt_of_lt_of_le hi h.size) hne).trans (h.block i hi hne)⟩
def zArr (k:Nat) (rs:List ByteArray) (q:Nat):Array Value:=((zsP k rs q).map I).toArray
theorem zArr_set (k:Nat) (rs:List ByteArray) (q:Nat) (i:Nat) (r:ByteArray) (hi:(idx k)[q]? = some i) (hr:rs[q]? = some r):(zArr k rs q).setIfInBounds i (I (vO r))=zArr k rs (q+1):=by
  have e1:(idx k).getD q 0=i:=by simp[List.getD,hi]
  have e2:rs.getD q ByteArray.empty=r:=by simp[List.getD,hr]
  unfold zArr
  simp only[zsP,e1,e2]
  apply Array.ext_getElem?
  intro j
  rw[Array.getElem?_setIfInBounds]
  simp only[List.size_toArray,List.length_map,zsP_len,List.getElem?_toArray,List.getElem?_map,List.getElem?_set]
  by_cases hj:i=j
  · subst hj
    by_cases h5:i<5
    · simp[h5,vO]
    · simp[h5]
  · simp[hj]
theorem zArr_cell {w:World} {a:Nat} {t:TypeId} {k:Nat} {rs:List ByteArray} {q:Nat} (h:Blk w a t (zArr k rs q)) (j:Nat) (hj:j<5):w.cell? ⟨a,j,none⟩ = some (I (gI (zsP k rs q) j)):=by
  rw[h.cell]
  unfold zArr
  have hl:=zsP_len k rs q
  simp[gI,List.getD,hl,hj]
set_option maxHeartbeats 4000000 in
theorem impl_any (s:ByteArray) (w:World) (hsp:SplitOk s w) :
    Calls Tryz.prog 73 #[.string s] w (ARet s w):=by
  have HS:=Lib.hid hsp
  clear hsp
  go_enter Tryz.func73,Tryz.ntmps73
  go_wp2_with fail
  refine(HS.out _ ((Below.refl _ _).alloc (Nat.le_refl _) _)).mono ?_
  rintro e w2 (⟨hL,A,c,rfl,hown,hbel⟩|⟨hL,A,c,rfl,hbel⟩)
  rotate_left
  · have hbox:=(Blk.new w 88 #[I 0,I 0,I 0,I 0,I 0]).below hbel (by simp)
    have HB:Hid (Below w.heap.size w w2):=((Below.refl _ _).alloc (Nat.le_refl _) _).trans (hbel.mono (by simp))
    have Hbox:=Lib.hid hbox
    have b0:w2.cell? ⟨w.heap.size,0,none⟩ = some (I 0):=hbox.cell 0
    have f0:w2.frozen? ⟨w.heap.size,0,none⟩ = false:=hbox.frozen 0
    have b1:w2.cell? ⟨w.heap.size,1,none⟩ = some (I 0):=hbox.cell 1
    have f1:w2.frozen? ⟨w.heap.size,1,none⟩ = false:=hbox.frozen 1
    have b2:w2.cell? ⟨w.heap.size,2,none⟩ = some (I 0):=hbox.cell 2
    have f2:w2.frozen? ⟨w.heap.size,2,none⟩ = false:=hbox.frozen 2
    have b3:w2.cell? ⟨w.heap.size,3,none⟩ = some (I 0):=hbox.cell 3
    have f3:w2.frozen? ⟨w.heap.size,3,none⟩ = false:=hbox.frozen 3
    have b4:w2.cell? ⟨w.heap.size,4,none⟩ = some (I 0):=hbox.cell 4
    have f4:w2.frozen? ⟨w.heap.size,4,none⟩ = false:=hbox.frozen 4
    clear hbox hbel
    go_wp2
    refine bodyPost_ret (ret_act Tryz.results73 (p:=2) (u:=3) (g:=w.heap.size) rfl (Blk.set5 Hbox.out (I 0) (I 0) (I 0) (I 0) (I 0))) rfl (aret_no (fun z hz=>hL hz.1) ?_)
    exact(((((Below.setCell HB.out (Nat.le_refl _) _).setCell (Nat.le_refl _) _).setCell (Nat.le_refl _) _).setCell (Nat.le_refl _) _).setCell (Nat.le_refl _) _)
  · have hbox:=(Blk.new w 88 #[I 0,I 0,I 0,I 0,I 0]).below hbel (by simp)
    have hB:Below w.heap.size w w2:=((Below.refl _ _).alloc (Nat.le_refl _) _).trans (hbel.mono (by simp))
    have HB:=Lib.hid hB
    have Hbox:=Lib.hid hbox
    obtain⟨fs,hfs⟩ : ∃ fs,fields s=fs:=⟨_,rfl⟩
    rw[hfs]at hown ⊢
    have Hfs:=Lib.hid hfs
    have hfsz:∀ f∈fs,f.size≤600:=fun f hf=>Nat.le_trans (field_size s f (by rw[hfs];exact hf)) hL.1
    have hnn:fs.length≤24:=by rw[←hfs];simp only[fields,List.length_map];exact hL.2.2
    have HL:=Lib.hid hL
    clear hfs hbel hB hL
    by_cases hn0:fs.length=0
    · have hnil:fs=[]:=List.eq_nil_of_length_eq_zero hn0
      have Hnil:=Lib.hid hnil
      have hn0':((fs.length:Int) == 0)=true:=by rw[hn0];rfl
      have b0:w2.cell? ⟨w.heap.size,0,none⟩ = some (I 0):=hbox.cell 0
      have f0:w2.frozen? ⟨w.heap.size,0,none⟩ = false:=hbox.frozen 0
      have b1:w2.cell? ⟨w.heap.size,1,none⟩ = some (I 0):=hbox.cell 1
      have f1:w2.frozen? ⟨w.heap.size,1,none⟩ = false:=hbox.frozen 1
      have b2:w2.cell? ⟨w.heap.size,2,none⟩ = some (I 0):=hbox.cell 2
      have f2:w2.frozen? ⟨w.heap.size,2,none⟩ = false:=hbox.frozen 2
      have b3:w2.cell? ⟨w.heap.size,3,none⟩ = some (I 0):=hbox.cell 3
      have f3:w2.frozen? ⟨w.heap.size,3,none⟩ = false:=hbox.frozen 3
      have b4:w2.cell? ⟨w.heap.size,4,none⟩ = some (I 0):=hbox.cell 4
      have f4:w2.frozen? ⟨w.heap.size,4,none⟩ = false:=hbox.frozen 4
      clear hbox hown hn0 hnn hfsz hnil
      go_wp2
      refine bodyPost_ret (ret_act Tryz.results73 (p:=2) (u:=3) (g:=w.heap.size) rfl (Blk.set5 Hbox.out (I 0) (I 0) (I 0) (I 0) (I 0))) rfl (aret_no (fun z hz=>by obtain⟨_,k,hk,_⟩:=hz;have:=hk.2.2.1;rw[Hfs.out,Hnil.out]at this;cases this) ?_)
      exact(((((Below.setCell HB.out (Nat.le_refl _) _).setCell (Nat.le_refl _) _).setCell (Nat.le_refl _) _).setCell (Nat.le_refl _) _).setCell (Nat.le_refl _) _)
    · have hn0':((fs.length:Int) == 0)=false:=beq_eq_false_iff_ne.2 (by omega)
      have hpos:0<fs.length:=by omega
      obtain⟨g,rfl,hg,hcell⟩:=hown hpos
      have hcells:∀ i (hi:i<fs.length),w2.cell? ⟨g,i,none⟩ = some (.string fs[i]):=fun i hi=>hcell i _ (by simp[hi])
      have Hcells:=Lib.hid hcells
      have Hfsz:=Lib.hid hfsz
      have hw2:w.heap.size≤w2.heap.size:=HB.out.size
      have hgb:w.heap.size<w2.heap.size:=Hbox.out.lt
      obtain⟨f0,hf0,rs,hrs,hle,hge,hre⟩ : ∃ f0,fs[0]? = some f0∧∃ rs,fs.tail=rs∧rs.length+1≤fs.length∧fs.length≤rs.length+1∧∀ q,q<rs.length→fs[q+1]? = rs[q]?:=by
        match fs,hpos with
        | f0::rs,_=>exact⟨f0,by simp,rs,rfl,by simp,by simp,fun q hq=>by simp⟩
      have Hf0:=Lib.hid hf0
      have Hrs:=Lib.hid hrs
      have Hre:=Lib.hid hre
      have hh:Hid (fs.head? = some f0):=by have:=hf0;rw[←List.head?_eq_getElem?]at this;exact this
      have hc0:Hid (w2.cell? ⟨g,0,none⟩ = some (.string f0)):=by
        show _=_
        rw[hcells 0 hpos]
        rw[List.getElem?_eq_getElem hpos]at hf0
        injection hf0 with hf0
        rw[hf0]
      clear hcell hcells hn0 hown hbox hfsz hf0 hrs hre
      go_wp2
      go_loopw [6] (fun i wr=>∃ k:Nat,1≤k∧k≤11∧i=.int .i64 (k:Int)∧(∀ j,j<k→¬Fits fs j)∧Below w2.heap.size w2 wr) (fun i _=>11 - (intOf i).toNat)
      case atStart=>exact⟨1,by omega,by omega,rfl,fun j hj h=>by have:=h.1;omega,Below.refl _ _⟩
      case round=>
        obtain⟨k,hk1,hk11,rfl,hno,hbel⟩:=hrel
        have Hno:=Lib.hid hno
        have Hbel:=Lib.hid hbel
        have hsz:=hbel.size
        have hboxr:Blk wr w.heap.size 88 #[I 0,I 0,I 0,I 0,I 0]:=Hbox.out.below hbel hgb
        have Hboxr:=Lib.hid hboxr
        have HBr:=Lib.hid (HB.out.trans (hbel.mono hw2))
        have hcr:Hid (wr.cell? ⟨g,0,none⟩ = some (.string f0)):=(hbel.cell (p:=⟨g,0,none⟩) hg).trans hc0.out
        clear hno hbel
        by_cases hend:k=11
        · subst hend
          have b0:wr.cell? ⟨w.heap.size,0,none⟩ = some (I 0):=hboxr.cell 0
          have f0:wr.frozen? ⟨w.heap.size,0,none⟩ = false:=hboxr.frozen 0
          have b1:wr.cell? ⟨w.heap.size,1,none⟩ = some (I 0):=hboxr.cell 1
          have f1:wr.frozen? ⟨w.heap.size,1,none⟩ = false:=hboxr.frozen 1
          have b2:wr.cell? ⟨w.heap.size,2,none⟩ = some (I 0):=hboxr.cell 2
          have f2:wr.frozen? ⟨w.heap.size,2,none⟩ = false:=hboxr.frozen 2
          have b3:wr.cell? ⟨w.heap.size,3,none⟩ = some (I 0):=hboxr.cell 3
          have f3:wr.frozen? ⟨w.heap.size,3,none⟩ = false:=hboxr.frozen 3
          have b4:wr.cell? ⟨w.heap.size,4,none⟩ = some (I 0):=hboxr.cell 4
          have f4:wr.frozen? ⟨w.heap.size,4,none⟩ = false:=hboxr.frozen 4
          clear hboxr
          go_wp2
          refine bodyPost_ret (ret_act Tryz.results73 (p:=2) (u:=3) (g:=w.heap.size) rfl (Blk.set5 Hboxr.out (I 0) (I 0) (I 0) (I 0) (I 0))) rfl (aret_no (fun z hz=>by obtain⟨_,j,hj,_⟩:=hz;rw[Hfs.out]at hj;exact Hno.out j (by have:=hj.2.1;omega) hj) ?_)
          exact(((((Below.setCell HBr.out (Nat.le_refl _) _).setCell (Nat.le_refl _) _).setCell (Nat.le_refl _) _).setCell (Nat.le_refl _) _).setCell (Nat.le_refl _) _)
        · have hk10:k≤10:=by omega
          clear hend hboxr hk11
          go_wp2_with fail
          refine(parts_any k hk1 hk10 wr.heap.size 0 0 0 0 _ (Blk.new _ _ _)).mono ?_
          rintro e w4 ⟨A4,c4,rfl,hown4,hbel4⟩
          have hba:Blk w4 wr.heap.size 88 (zArr k rs 0):=(Blk.new wr _ _).below hbel4 (by simp)
          have Hba:=Lib.hid hba
          have ha4:wr.heap.size<w4.heap.size:=hba.lt
          have Hown4:=Lib.hid hown4
          have Hb4:Hid (Below wr.heap.size wr w4):=((Below.refl _ _).alloc (Nat.le_refl _) _).trans (hbel4.mono (by simp))
          have hc4:=(Hb4.out.cell (p:=⟨g,0,none⟩) (Nat.lt_of_lt_of_le hg hsz)).trans hcr.out
          clear hba hown4 hbel4
          by_cases hw:f0=word k
          · by_cases ha:(idx k).length=rs.length
            · subst hw
              have hq1:((word k).toList == (word k).toList)=true:=by simp
              have hq2:(((idx k).length:Int) != (fs.length:Int) - 1)=false:=by
                have:((idx k).length:Int)=(fs.length:Int) - 1:=by omega
                rw[this];simp
              have hfit:Hid (Fits fs k):=⟨hk1,hk10,hh.out,by omega⟩
              have Hc4:=Lib.hid hc4
              have hlen3:=idx_len k
              have ha1:(idx k).length≤rs.length:=Nat.le_of_eq ha
              have ha2:rs.length≤(idx k).length:=Nat.le_of_eq ha.symm
              clear ha
              go_wp2
              clear hc4
              obtain⟨wo,rfl⟩ : ∃ wo:World,wo=wr:=⟨_,rfl⟩
              go_loopw [52] (fun i wr=>∃ q:Nat,q≤(idx k).length∧i=.int .i64 (q:Int)∧Blk wr wo.heap.size 88 (zArr k rs q)∧(∀ r∈rs.take q,Canon r.data.toList)∧w4.grownBy wr (some wo.heap.size)) (fun i _=>3 - (intOf i).toNat)
              case atStart=>exact⟨0,Nat.zero_le _,rfl,Hba.out,by simp,grown_refl _ _⟩
              case round=>
                obtain⟨q,hq,rfl,hbi,hcan,hgr⟩:=hrel
                have Hbi:=Lib.hid hbi
                have Hcan:=Lib.hid hcan
                have Hgr:=Lib.hid hgr
                have hrw:w4.heap.size≤wr.heap.size:=hgr.size
                have hboxi:Blk wr w.heap.size 88 #[I 0,I 0,I 0,I 0,I 0]:=(hgr.block _ (by omega) (fun e=>by injection e;omega)).trans (Hboxr.out.below Hb4.out (by omega))
                have Hboxi:=Lib.hid hboxi
                have HBi:Hid (Below w.heap.size w wr):=(HBr.out.trans (Hb4.out.mono (by omega))).grown hgr (by omega) (fun k hk=>by injection hk;omega)
                have HB2i:Hid (Below w2.heap.size w2 wr):=(Hbel.out.trans (Hb4.out.mono hsz)).grown hgr (by omega) (fun k hk=>by injection hk;omega)
                clear hcan
                by_cases hlt:q<(idx k).length
                · obtain⟨gp,rfl,hgp,hpc⟩:=own_cells Hown4.out (by omega)
                  have hgp2:=(Hown4.out.lt gp rfl).1
                  rw[World.size_alloc]at hgp2
                  obtain⟨i,hi⟩ : ∃ i,(idx k)[q]? = some i:=⟨_,List.getElem?_eq_getElem hlt⟩
                  have hi5:i<5:=idx_lt k i (List.mem_of_getElem? hi)
                  have hp4:=hpc q (.pointer (some ⟨wo.heap.size,i,none⟩)) (by unfold Ptrs;rw[List.getElem?_map,hi];rfl)
                  have hpi:=hgr.cell hp4 (fun e=>by injection e with e;have e2:gp=wo.heap.size:=e;omega)
                  have hqr:q<rs.length:=by omega
                  have hfe:=Hre.out q hqr
                  rw[List.getElem?_eq_getElem hqr,List.getElem?_eq_getElem (by omega)]at hfe
                  injection hfe with hfe
                  have hci:=(HB2i.out.cell (p:=⟨g,q+1,none⟩) hg).trans (Hcells.out (q+1) (by omega))
                  rw[hfe]at hci
                  have hfz:rs[q].size≤600:=Hfsz.out _ (by rw[←hfe];exact List.getElem_mem _)
                  have hlt2:(q:Int)+1<(fs.length:Int):=by omega
                  have hlt3:(q:Int)<((idx k).length:Int):=by omega
                  have Hi:=Lib.hid hi
                  clear hpc hp4 hfe hgr hbi hboxi hi
                  by_cases hC:Canon rs[q].data.toList
                  · go_wp2_with fail
                    refine(impl_yes _ _ (by unfold maxLen;omega) hC).mono ?_
                    rintro e w5 ⟨rfl,hb5⟩
                    have hba5:Blk w5 wo.heap.size 88 (zArr k rs q):=Hbi.out.below hb5 Hbi.out.lt
                    have s5:=zArr_cell hba5 i hi5
                    have f5:=hba5.frozen i
                    have Hba5:=Lib.hid hba5
                    have Hgr5:=Lib.hid (grown_tr Hgr.out (grown_of_below hb5 (some wo.heap.size)))
                    clear hb5 hba5 Hbi Hgr Hboxi HBi HB2i hpi hci
                    go_wp2
                    go_roundw
                    case rel=>
                      have e:rs.take (q+1)=rs.take q++[rs[q]]:=by rw[List.take_succ_eq_append_getElem hqr]
                      have HR:∃ q':Nat,q'≤(idx k).length∧Value.int .i64 ((q:Int)+1)=.int .i64 (q':Int)∧Blk (w5.setCell ⟨wo.heap.size,i,none⟩ (I (vO rs[q]))) wo.heap.size 88 (zArr k rs q')∧(∀ r∈rs.take q',Canon r.data.toList)∧w4.grownBy (w5.setCell ⟨wo.heap.size,i,none⟩ (I (vO rs[q]))) (some wo.heap.size):=by
                        refine⟨q+1,by omega,by go_num,?_,?_,grown_setCell Hgr5.out _ _⟩
                        · rw[←zArr_set k rs q i rs[q] Hi.out (List.getElem?_eq_getElem hqr)];exact Hba5.out.set_ i _
                        · rw[e]
                          intro r hr
                          rcases List.mem_append.1 hr with hr|hr
                          · exact Hcan.out r hr
                          · simp at hr;subst hr;exact hC
                      first
                        | exact HR
                        | ((repeat apply Exists.intro);exact⟨HR,rfl⟩)
                    case measure=>simp[intOf];omega
                  · go_wp2_with fail
                    refine(impl_no _ _ (by unfold maxLen;omega) hC).mono ?_
                    rintro e w5 ⟨rfl,hb5⟩
                    have hbox5:Blk w5 w.heap.size 88 #[I 0,I 0,I 0,I 0,I 0]:=Hboxi.out.below hb5 (by omega)
                    have Hbox5:=Lib.hid hbox5
                    have HB5:=Lib.hid (HBi.out.trans (hb5.mono HBi.out.size))
                    have b0:w5.cell? ⟨w.heap.size,0,none⟩ = some (I 0):=hbox5.cell 0
                    have f0:w5.frozen? ⟨w.heap.size,0,none⟩ = false:=hbox5.frozen 0
                    have b1:w5.cell? ⟨w.heap.size,1,none⟩ = some (I 0):=hbox5.cell 1
                    have f1:w5.frozen? ⟨w.heap.size,1,none⟩ = false:=hbox5.frozen 1
                    have b2:w5.cell? ⟨w.heap.size,2,none⟩ = some (I 0):=hbox5.cell 2
                    have f2:w5.frozen? ⟨w.heap.size,2,none⟩ = false:=hbox5.frozen 2
                    have b3:w5.cell? ⟨w.heap.size,3,none⟩ = some (I 0):=hbox5.cell 3
                    have f3:w5.frozen? ⟨w.heap.size,3,none⟩ = false:=hbox5.frozen 3
                    have b4:w5.cell? ⟨w.heap.size,4,none⟩ = some (I 0):=hbox5.cell 4
                    have f4:w5.frozen? ⟨w.heap.size,4,none⟩ = false:=hbox5.frozen 4
                    clear hbox5 hb5 hpi hci
                    go_wp2
                    refine bodyPost_ret (ret_act Tryz.results73 (p:=2) (u:=3) (g:=w.heap.size) rfl (Blk.set5 Hbox5.out (I 0) (I 0) (I 0) (I 0) (I 0))) rfl (aret_no (fun z hz=>by obtain⟨_,j,_,hj,_⟩:=hz;rw[Hfs.out,Hrs.out]at hj;exact hC (hj _ (List.getElem_mem _))) ?_)
                    exact(((((Below.setCell HB5.out (Nat.le_refl _) _).setCell (Nat.le_refl _) _).setCell (Nat.le_refl _) _).setCell (Nat.le_refl _) _).setCell (Nat.le_refl _) _)
                · obtain rfl:q=(idx k).length:=by omega
                  have htk:rs.take (idx k).length=rs:=List.take_of_length_le (by omega)
                  rw[htk]at Hcan
                  have hz:IsAct s (zsP k rs (idx k).length):=⟨HL.out,k,by rw[Hfs.out];exact hfit.out,by rw[Hfs.out,Hrs.out];exact Hcan.out,by rw[Hfs.out,Hrs.out]⟩
                  have Hz:=Lib.hid hz
                  have z0:=zArr_cell hbi 0 (by omega)
                  have z1:=zArr_cell hbi 1 (by omega)
                  have z2:=zArr_cell hbi 2 (by omega)
                  have z3:=zArr_cell hbi 3 (by omega)
                  have z4:=zArr_cell hbi 4 (by omega)
                  have b0:wr.cell? ⟨w.heap.size,0,none⟩ = some (I 0):=hboxi.cell 0
                  have f0:wr.frozen? ⟨w.heap.size,0,none⟩ = false:=hboxi.frozen 0
                  have b1:wr.cell? ⟨w.heap.size,1,none⟩ = some (I 0):=hboxi.cell 1
                  have f1:wr.frozen? ⟨w.heap.size,1,none⟩ = false:=hboxi.frozen 1
                  have b2:wr.cell? ⟨w.heap.size,2,none⟩ = some (I 0):=hboxi.cell 2
                  have f2:wr.frozen? ⟨w.heap.size,2,none⟩ = false:=hboxi.frozen 2
                  have b3:wr.cell? ⟨w.heap.size,3,none⟩ = some (I 0):=hboxi.cell 3
                  have f3:wr.frozen? ⟨w.heap.size,3,none⟩ = false:=hboxi.frozen 3
                  have b4:wr.cell? ⟨w.heap.size,4,none⟩ = some (I 0):=hboxi.cell 4
                  have f4:wr.frozen? ⟨w.heap.size,4,none⟩ = false:=hboxi.frozen 4
                  clear hz hbi hboxi hgr htk
                  go_wp2
                  refine bodyPost_ret (ret_act Tryz.results73 (p:=2) (u:=3) (g:=w.heap.size) rfl (Blk.set5 Hboxi.out (I (gI (zsP k rs (idx k).length) 0)) (I (gI (zsP k rs (idx k).length) 1)) (I (gI (zsP k rs (idx k).length) 2)) (I (gI (zsP k rs (idx k).length) 3)) (I (gI (zsP k rs (idx k).length) 4)))) rfl ⟨.inl ⟨_,Hz.out,rfl⟩,?_⟩
                  exact(((((Below.setCell HBi.out (Nat.le_refl _) _).setCell (Nat.le_refl _) _).setCell (Nat.le_refl _) _).setCell (Nat.le_refl _) _).setCell (Nat.le_refl _) _)
            · subst hw
              have hq1:((word k).toList == (word k).toList)=true:=by simp
              have hq2:(((idx k).length:Int) != (fs.length:Int) - 1)=true:=by rw[bne_iff_ne];omega
              have HN:Hid (∀ j,j<k+1→¬Fits fs j):=fun j hj h=>by
                by_cases e:j<k
                · exact Hno.out j e h
                · obtain rfl:j=k:=by omega
                  have:=h.2.2.2
                  omega
              have HB4:=Lib.hid (Hbel.out.trans (Hb4.out.mono hsz))
              go_wp2
              go_roundw
              case rel=>exact⟨k+1,by omega,by omega,by go_num,HN.out,HB4.out⟩
              case measure=>simp[intOf];omega
          · have hq1:((word k).toList == f0.toList)=false:=ne_word' _ _ hw
            have HN:Hid (∀ j,j<k+1→¬Fits fs j):=fun j hj h=>by
              by_cases e:j<k
              · exact Hno.out j e h
              · obtain rfl:j=k:=by omega
                have e2:=h.2.2.1
                rw[hh.out]at e2
                injection e2 with e2
                exact hw e2
            have HB4:=Lib.hid (Hbel.out.trans (Hb4.out.mono hsz))
            go_wp2
            go_roundw
            case rel=>exact⟨k+1,by omega,by omega,by go_num,HN.out,HB4.out⟩
            case measure=>simp[intOf];omega
end Go.Proofs.YtfdfgipemcbekaaGreatDoor.PaI
