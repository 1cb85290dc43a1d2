/- spec.FormatInt, and ParseUint of both sides: for every int, for every string of bounded length. -/
import Derived.Test.YtfdfgipemcbekaaGreatDoorProg
import Derived.Test.YtfdfgipemcbekaaGreatDoorTxt
import Derived.Test.YtfdfgipemcbekaaGreatDoorMem
import Derived.WalkKit
import Derived.WalkLawsBesides
import Derived.Handy
import Derived.Lib.Hide
namespace Go.Proofs.YtfdfgipemcbekaaGreatDoor.Nm
open Go.RowKit Tx Mm
set_option maxRecDepth 4000
theorem ret_str {a b:ByteArray} (h:a=b):Ending.returned (.string a)=.returned (.string b):=by rw[h]
theorem figure_any (d:Int) (w:World) (h0:0≤d) (h:d<10) :
    Calls Tryz.prog 190 #[.int .i64 d] w fun e w'=>e=.returned (.int .u8 (48+d))∧w=w':=by
  go_enter Tryz.func190,Tryz.ntmps190
  go_wp2
  go_ret
  exact⟨rfl,rfl⟩
theorem conv_one (w:World) (r:Nat) (z:Int) (h:r<10) (hz:z=48+(r:Int)) :
    (convert 243 9 (.slice (some ⟨w.heap.size,0,none⟩) 1 1)).run Tryz.prog (w.alloc (.cells #[.int .u8 z] 5))=.ok (.string ⟨[UInt8.ofNat (48+r)].toArray⟩) (w.alloc (.cells #[.int .u8 z] 5)):=by
  refine run_convert_bytes_back (w.alloc (.cells #[.int .u8 z] 5)) 243 9 5 ⟨w.heap.size,0,none⟩ 1 [UInt8.ofNat (48+r)] Tryz.underlying243 Tryz.underlying5 Tryz.underlying9 ?_
  intro j hj
  obtain rfl:j=0:=by simpa using hj
  have hadd:(⟨w.heap.size,0,none⟩ : Addr).add 0 = ⟨w.heap.size,0,none⟩:=by unfold Addr.add;simp
  rw[hadd,(Blk.new w _ _).cell]
  simp
  omega
theorem cat (a l:List UInt8):(⟨a.toArray⟩ : ByteArray)++⟨l.toArray⟩ = ⟨(a++l).toArray⟩:=by
  apply ByteArray.ext
  simp[ByteArray.data_append]
theorem cat_digit (c:UInt8) (u:Nat) (l:List UInt8) (h:c=UInt8.ofNat (48+u)):Value.string ((⟨#[c]⟩ : ByteArray)++⟨l.toArray⟩)=.string ⟨([UInt8.ofNat (48+u)]++l).toArray⟩:=by
  rw[←h]
  exact congrArg Value.string (cat [c] l)
def Fm (n:Int) (w:World) (m:Nat) (l:List UInt8) (wr:World):Prop:=m≤n.natAbs∧dz n.natAbs=dz m++l∧Below w.heap.size w wr
theorem Fm.step {n:Int} {w:World} {m:Nat} {l:List UInt8} {wr:World} (h:Fm n w m l wr) (hm:m≠0) (o:Obj):Fm n w (m / 10) ([UInt8.ofNat (48+m % 10)]++l) (wr.alloc o):=
  ⟨by have:=h.1;omega,by rw[h.2.1,dz_step m hm];simp,h.2.2.alloc h.2.2.size o⟩
theorem Fm.len {n:Int} {w:World} {m:Nat} {l:List UInt8} {wr:World} (h:Fm n w m l wr) (h0 : -9223372036854775808≤n) (h1:n≤9223372036854775807):l.length≤20:=by
  have h3:=dz_len n.natAbs (by omega)
  rw[h.2.1,List.length_append]at h3
  omega
set_option maxHeartbeats 400000 in
theorem fmt_any (n:Int) (w:World) (h0 : -9223372036854775808≤n) (h1:n≤9223372036854775807) :
    Calls Tryz.prog 93 #[.int .i64 n] w fun e w'=>e=.returned (.string ⟨(Lib.itoa n).toArray⟩)∧Below w.heap.size w w':=by
  by_cases hz:n=0
  · subst hz
    go_enter Tryz.func93,Tryz.ntmps93
    go_wp2
    go_ret
    exact⟨ret_str (by rw[itoa_zero]),Below.refl _ _⟩
  · have hz':(n == 0)=false:=by simpa using hz
    by_cases hneg:n<0
    · go_enter Tryz.func93,Tryz.ntmps93
      go_wp2
      go_loopw [0,4] (fun q v wr=>∃ (m:Nat) (l:List UInt8),q=.int .i64 (-(m:Int))∧v=.string ⟨l.toArray⟩∧Fm n w m l wr) (fun q _ _=>(intOf q).natAbs)
      case atStart=>exact⟨n.natAbs,[],by rw[show(-(n.natAbs:Int))=n by omega],rfl,Nat.le_refl _,by simp,Below.refl _ _⟩
      case round=>
        obtain⟨m,l,rfl,rfl,hf⟩:=hrel
        have hl:=hf.len h0 h1
        have hm:=hf.1
        have Hf:=Lib.hid hf
        clear hf
        by_cases hm0:m=0
        · subst hm0
          go_wp2
          go_ret
          refine⟨ret_str ?_,Hf.out.2.2⟩
          have h5:=Hf.out.2.1
          rw[itoa_dz n hz,if_pos hneg,h5]
          exact cat [45] l
        · have hme:((-(m:Int)) != 0)=true:=by simp;omega
          have htd:(-(m:Int)).tdiv 10 = -((m / 10:Nat):Int):=by rw[Int.neg_tdiv];rfl
          by_cases hr:m % 10=0
          · have htm:(-(m:Int)).tmod 10=0:=by rw[Int.neg_tmod,Int.tmod_eq_emod_of_nonneg (by omega)];omega
            have hcv:=conv_one wr 0 48 (by omega) (by omega)
            go_wp2_with fail
            refine(figure_any _ _ (by omega) (by omega)).mono ?_
            rintro e w1 ⟨rfl,rfl⟩
            go_wp2
            go_roundw
            case rel=>
              exact⟨m / 10,_,by go_num,cat_digit _ _ _ (by rw[hr];rfl),Hf.out.step hm0 _⟩
            case measure=>simp[intOf];omega
          · obtain⟨r,hrr⟩ : ∃ r,m % 10=r:=⟨_,rfl⟩
            have htm:(-(m:Int)).tmod 10 = -(r:Int):=by rw[Int.neg_tmod,Int.tmod_eq_emod_of_nonneg (by omega)];omega
            have hr1:0<r:=by omega
            have hr2:r<10:=by omega
            have Hrr:=Lib.hid hrr
            clear hrr hr
            have hcv:=conv_one wr r (48+(r:Int)) hr2 rfl
            go_wp2_with fail
            refine(figure_any _ _ (by omega) (by omega)).mono ?_
            rintro e w1 ⟨rfl,rfl⟩
            go_wp2
            go_roundw
            case rel=>
              exact⟨m / 10,_,by go_num,cat_digit _ _ _ (by rw[Hrr.out,UInt8.ofNat_add];rfl),Hf.out.step hm0 _⟩
            case measure=>simp[intOf];omega
    · have hn0:0≤n:=by omega
      go_enter Tryz.func93,Tryz.ntmps93
      go_wp2
      go_loopw [0,4] (fun q v wr=>∃ (m:Nat) (l:List UInt8),q=.int .i64 (m:Int)∧v=.string ⟨l.toArray⟩∧Fm n w m l wr) (fun q _ _=>(intOf q).natAbs)
      case atStart=>exact⟨n.natAbs,[],by rw[show(n.natAbs:Int)=n by omega],rfl,Nat.le_refl _,by simp,Below.refl _ _⟩
      case round=>
        obtain⟨m,l,rfl,rfl,hf⟩:=hrel
        have hl:=hf.len h0 h1
        have hm:=hf.1
        have Hf:=Lib.hid hf
        clear hf
        by_cases hm0:m=0
        · subst hm0
          go_wp2
          go_ret
          refine⟨ret_str ?_,Hf.out.2.2⟩
          have h5:=Hf.out.2.1
          rw[itoa_dz n hz,if_neg (by omega),h5]
          simp[dz]
        · have hme:((m:Int) != 0)=true:=by simp;omega
          have hcv:=conv_one wr (m % 10) (48+(m:Int) % 10) (by omega) (by omega)
          go_wp2_with fail
          refine(figure_any _ _ (by omega) (by omega)).mono ?_
          rintro e w1 ⟨rfl,rfl⟩
          go_wp2
          go_roundw
          case rel=>
            exact⟨m / 10,_,by go_num,cat_digit _ _ _ (by rw[UInt8.ofNat_add];rfl),Hf.out.step hm0 _⟩
          case measure=>simp[intOf];omega
def PRet (l:List UInt8) (w:World) (e:Ending) (w':World):Prop:=e=.returned (.tuple #[.int .i64 (pN l),.bool (pB l)])∧Below w.heap.size w w'
theorem pret_no {l:List UInt8} {w w':World} (h:¬Canon l) (hb:Below w.heap.size w w'):PRet l w (.returned (.tuple #[.int .i64 0,.bool false])) w':=by
  refine⟨?_,hb⟩
  unfold pN pB
  rw[if_neg h,decide_eq_false h]
theorem pret_yes {l:List UInt8} {w w':World} (h:Canon l) (hb:Below w.heap.size w w'):PRet l w (.returned (.tuple #[.int .i64 (valL l:Nat),.bool true])) w':=by
  refine⟨?_,hb⟩
  unfold pN pB
  rw[if_pos h,decide_eq_true h]
def Pk (s:ByteArray) (k:Nat):Prop:=k≤s.size∧∀ c∈s.data.toList.take k,Dig c
theorem take_snoc (s:ByteArray) (k:Nat) (h:k<s.size):s.data.toList.take (k+1)=s.data.toList.take k++[s[k]]:=by
  rw[List.take_succ_eq_append_getElem (by simpa using h)];rfl
theorem Pk.step {s:ByteArray} {k:Nat} (h:Pk s k) (hk:k<s.size) (hd:Dig s[k]):Pk s (k+1):=by
  refine⟨by omega,?_⟩
  rw[take_snoc s k hk]
  intro c hc
  rcases List.mem_append.1 hc with hc|hc
  · exact h.2 c hc
  · simp at hc;subst hc;exact hd
theorem Pk.all {s:ByteArray} (h:Pk s s.size):∀ c∈s.data.toList,Dig c:=by
  have:=h.2
  rwa [List.take_of_length_le (by simp)]at this
theorem Pk.bad {s:ByteArray} {k:Nat} (hk:k<s.size) (hd:¬Dig s[k]):¬Canon s.data.toList:=fun h=>hd (h.2.2.2.1 _ (by
  have:s[k]=s.data.toList[k]'(by simpa using hk):=by simp;rfl
  rw[this];exact List.getElem_mem _))
theorem val_step (s:ByteArray) (k:Nat) (hk:k<s.size):valL (s.data.toList.take (k+1))=valL (s.data.toList.take k)*10+(s[k].toNat - 48):=by
  rw[take_snoc s k hk,valL_snoc]
theorem val_bd {s:ByteArray} {k:Nat} (h:Pk s k) (h10:s.size≤10):valL (s.data.toList.take k)≤9999999999:=by
  have h1:=valL_lt _ h.2
  have h2:(s.data.toList.take k).length≤10:=by rw[List.length_take];have:=h.1;omega
  have h3:10 ^ (s.data.toList.take k).length≤10 ^ 10:=Nat.pow_le_pow_right (by omega) h2
  omega
set_option maxHeartbeats 400000 in
theorem spec_parse (s:ByteArray) (w:World) (hs:s.size≤maxLen) :
    Calls Tryz.prog 39 #[.string s] w (PRet s.data.toList w):=by
  unfold maxLen at hs
  have hlen:s.data.toList.length=s.size:=by simp
  by_cases h10:10<s.size
  · have hno:¬Canon s.data.toList:=fun h=>by have:=h.2.1;omega
    have Hno:=Lib.hid hno
    clear hno hlen
    go_enter Tryz.func39,Tryz.ntmps39
    go_wp2
    go_ret2
    exact pret_no Hno.out (Below.refl _ _)
  · clear hlen
    go_enter Tryz.func39,Tryz.ntmps39
    go_wp2
    go_loop [4,5] (fun n i=>∃ k:Nat,i=.int .i64 k∧n=.int .i64 (valL (s.data.toList.take k):Nat)∧Pk s k) (fun _ i=>s.size - (intOf i).toNat)
    case atStart=>exact⟨0,rfl,rfl,Nat.zero_le _,by simp⟩
    case round=>
      obtain⟨k,rfl,rfl,hp⟩:=hrel
      have hk:=hp.1
      have hv:=val_bd hp (by omega)
      have Hp:=Lib.hid hp
      clear hp
      by_cases hlt:k<s.size
      · have hstep:=Lib.hid (val_step s k hlt)
        by_cases hd1:s[k].toNat<48
        · have hd1':(s[k].toNat:Int)<48:=by omega
          go_wp2
          go_ret2
          exact pret_no (Pk.bad hlt (by unfold Dig;omega)) (Below.refl _ _)
        · have hd1':(48:Int)≤(s[k].toNat:Int):=by omega
          by_cases hd2:57<s[k].toNat
          · have hd2':(57:Int)<(s[k].toNat:Int):=by omega
            go_wp2
            go_ret2
            exact pret_no (Pk.bad hlt (by unfold Dig;omega)) (Below.refl _ _)
          · have hd2':(s[k].toNat:Int)≤57:=by omega
            generalize hvv:valL (s.data.toList.take k)=V at *
            have Hvv:=Lib.hid hvv
            clear hvv
            go_wp2
            go_round
            case rel=>exact⟨k+1,by go_num,by rw[hstep.out];go_num,Hp.out.step hlt (by unfold Dig;omega)⟩
            case measure=>simp[intOf];omega
      · obtain rfl:k=s.size:=by omega
        have hall:=Lib.hid Hp.out.all
        have htk:s.data.toList.take s.size=s.data.toList:=List.take_of_length_le (by simp)
        rw[htk]at hv
        rw[htk]
        clear htk
        generalize hvv:valL s.data.toList=V at *
        have Hvv:=Lib.hid hvv
        clear hvv
        by_cases hbig:1000000000<V
        · go_wp2
          go_ret2
          exact pret_no (fun h=>by have:=h.2.2.2.2;rw[Hvv.out]at this;omega) (Below.refl _ _)
        · go_wp2_with fail
          refine(fmt_any _ _ (by omega) (by omega)).mono ?_
          rintro e w1 ⟨rfl,hb⟩
          have hiff:=dec_val_iff s.data.toList hall.out
          rw[Hvv.out]at hiff
          have htl:s.toList=s.data.toList:=ByteArray.toList_eq s
          by_cases hc:Lib.decDigits V=s.data.toList
          · have hq:(Lib.itoa (V:Int) == s.toList)=true:=by rw[itoa_nat,htl,hc];simp
            have hcan:Canon s.data.toList:=by
              obtain⟨a,b⟩:=hiff.1 hc
              refine⟨a,by simp;omega,b,hall.out,by rw[Hvv.out];omega⟩
            have Hcan:=Lib.hid hcan
            have Hb:=Lib.hid hb
            clear hcan hiff htl hc hb
            go_wp2
            go_ret2
            rw[←Hvv.out]
            exact pret_yes Hcan.out Hb.out
          · have hq:(Lib.itoa (V:Int) == s.toList)=false:=by rw[itoa_nat,htl];simpa using hc
            have hcan:¬Canon s.data.toList:=fun h=>hc (hiff.2 ⟨h.1,h.2.2.1⟩)
            have Hcan:=Lib.hid hcan
            have Hb:=Lib.hid hb
            clear hcan hiff htl hc hb
            go_wp2
            go_ret2
            exact pret_no Hcan.out Hb.out
set_option maxHeartbeats 400000 in
theorem impl_parse (s:ByteArray) (w:World) (hs:s.size≤maxLen) :
    Calls Tryz.prog 139 #[.string s] w (PRet s.data.toList w):=by
  unfold maxLen at hs
  have hlen:s.data.toList.length=s.size:=by simp
  by_cases h0:s.size=0
  · have hno:¬Canon s.data.toList:=fun h=>h.1 (List.eq_nil_of_length_eq_zero (by omega))
    have Hno:=Lib.hid hno
    have h0':((s.size:Int) == 0)=true:=by rw[h0];rfl
    clear hno hlen h0
    go_enter Tryz.func139,Tryz.ntmps139
    go_wp2
    go_ret2
    exact pret_no Hno.out (Below.refl _ _)
  have h0':((s.size:Int) == 0)=false:=beq_eq_false_iff_ne.2 (by omega)
  by_cases h10:10<s.size
  · have hno:¬Canon s.data.toList:=fun h=>by have:=h.2.1;omega
    have Hno:=Lib.hid hno
    clear hno hlen
    go_enter Tryz.func139,Tryz.ntmps139
    go_wp2
    go_ret2
    exact pret_no Hno.out (Below.refl _ _)
  have hpos:0<s.size:=by omega
  have hhead:s.data.toList.head? = some (s[0]'hpos):=by
    rw[List.head?_eq_getElem?,List.getElem?_eq_getElem (by simpa using hpos)]
    simp;rfl
  by_cases hz:1<s.size∧(s[0]'hpos)=48
  · have hno:¬Canon s.data.toList:=fun h=>by
      rcases h.2.2.1 with h1|h1
      · omega
      · rw[hhead,hz.2]at h1;exact h1 rfl
    have Hno:=Lib.hid hno
    have hz1:=hz.1
    have hz2:(((s[0]'hpos).toNat:Int) == 48)=true:=by rw[hz.2];rfl
    clear hno hlen hz hhead
    go_enter Tryz.func139,Tryz.ntmps139
    go_wp2
    go_ret2
    exact pret_no Hno.out (Below.refl _ _)
  have hcan:(s.data.toList.length=1∨s.data.toList.head?≠some 48):=by
    by_cases h1:s.size=1
    · exact .inl (by omega)
    · refine .inr ?_
      rw[hhead]
      intro e
      injection e with e
      exact hz ⟨by omega,e⟩
  have Hcan:=Lib.hid hcan
  have hne:s.data.toList≠[]:=fun e=>by rw[e]at hlen;simp at hlen;omega
  have Hne:=Lib.hid hne
  have hz3:1<s.size→(((s[0]'hpos).toNat:Int) == 48)=false:=fun h1=>by
    have:(s[0]'hpos)≠48:=fun e=>hz ⟨h1,e⟩
    have:(s[0]'hpos).toNat≠48:=fun e=>this (by rw[←UInt8.ofNat_toNat (x:=s[0]'hpos),e];rfl)
    simp;omega
  clear hcan hne hhead hlen hz h0
  by_cases h1:1<s.size
  all_goals
    first|have hz4:=hz3 h1|skip
    clear hz3
    go_enter Tryz.func139,Tryz.ntmps139
    go_wp2
    go_loop [4,5] (fun n i=>∃ k:Nat,i=.int .i64 k∧n=.int .i64 (valL (s.data.toList.take k):Nat)∧Pk s k) (fun _ i=>s.size - (intOf i).toNat)
    case atStart=>exact⟨0,rfl,rfl,Nat.zero_le _,by simp⟩
    case round=>
      obtain⟨k,rfl,rfl,hp⟩:=hrel
      have hk:=hp.1
      have hv:=val_bd hp (by omega)
      have Hp:=Lib.hid hp
      clear hp
      by_cases hlt:k<s.size
      · have hstep:=Lib.hid (val_step s k hlt)
        by_cases hd1:s[k].toNat<48
        · have hd1':(s[k].toNat:Int)<48:=by omega
          go_wp2
          go_ret2
          exact pret_no (Pk.bad hlt (by unfold Dig;omega)) (Below.refl _ _)
        · have hd1':(48:Int)≤(s[k].toNat:Int):=by omega
          by_cases hd2:57<s[k].toNat
          · have hd2':(57:Int)<(s[k].toNat:Int):=by omega
            go_wp2
            go_ret2
            exact pret_no (Pk.bad hlt (by unfold Dig;omega)) (Below.refl _ _)
          · have hd2':(s[k].toNat:Int)≤57:=by omega
            generalize hvv:valL (s.data.toList.take k)=V at *
            have Hvv:=Lib.hid hvv
            clear hvv
            go_wp2
            go_round
            case rel=>exact⟨k+1,by go_num,by rw[hstep.out];go_num,Hp.out.step hlt (by unfold Dig;omega)⟩
            case measure=>simp[intOf];omega
      · obtain rfl:k=s.size:=by omega
        have hall:=Lib.hid Hp.out.all
        have htk:s.data.toList.take s.size=s.data.toList:=List.take_of_length_le (by simp)
        rw[htk]at hv
        rw[htk]
        clear htk
        generalize hvv:valL s.data.toList=V at *
        have Hvv:=Lib.hid hvv
        clear hvv
        by_cases hbig:1000000000<V
        · go_wp2
          go_ret2
          exact pret_no (fun h=>by have:=h.2.2.2.2;rw[Hvv.out]at this;omega) (Below.refl _ _)
        · go_wp2
          go_ret2
          rw[←Hvv.out]
          exact pret_yes ⟨Hne.out,by simp;omega,Hcan.out,hall.out,by rw[Hvv.out];omega⟩ (Below.refl _ _)
end Go.Proofs.YtfdfgipemcbekaaGreatDoor.Nm
