/- The text of a partial square, by impl. Conditions: none. -/
import Derived.Test.YtnimmkfkijcbbaaDoorPtx
import Derived.Test.YtnimmkfkijcbbaaDoorPartI
import Derived.Test.YtnimmkfkijcbbaaDoorShl2
import Derived.Lib.AppendIntMem
import Derived.Lib.LaidTab
namespace Go.Proofs.YtnimmkfkijcbbaaDoor
open Go.RowKit

theorem var_ext {w w' : World} {name : String} {cs : Array Value} (h : w.var? Tryd.prog name = some cs) (e : Ext w w') : w'.var? Tryd.prog name = some cs := by
  unfold World.var? at h ⊢
  cases hg : Tryd.prog.globalNamed name with
  | none => simp [hg] at h
  | some g =>
    rw [hg, Option.bind_some] at h
    rw [Option.bind_some]
    have hlt : g < w.heap.size := by
      rcases Nat.lt_or_ge g w.heap.size with h' | h'
      · exact h'
      · simp [Array.getElem?_eq_none h'] at h
    rw [Below.block e g hlt]; exact h
/-- The table of powers stands. -/
def Tab (w : World) : Prop := Lib.TabIs Tryd.prog w "internal/strconv.uint64pow10" .u64 Lib.pow10Tab
theorem Tab.ext {w w' : World} (h : Tab w) (e : Ext w w') : Tab w' := var_ext h e
theorem itoa_m1 : Lib.itoa (-1) = [45, 49] := by
  rw [Lib.itoa, if_pos (by decide)]
  show 45 :: Lib.decDigits 1 = _
  rw [Lib.decDigits, dif_pos (by decide)]; rfl

theorem decimal_p (v : Int) (w : World) (hv : -1 ≤ v ∧ v ≤ 9) (hT : Tab w) : Calls Tryd.prog 43 #[.int .i64 v] w fun e w' => e = .returned (.string (bs (dcB v))) ∧ Ext w w' := by
  by_cases h : v < 0
  · obtain rfl : v = -1 := by omega
    go_enter Tryd.func43, Tryd.ntmps43
    go_wp2_with fail
    refine (Tryd.strconv_FormatInt_10 (-1) (by decide) (by decide) w hT).mono ?_
    rintro e w2 ⟨rfl, k, os, hw⟩
    rw [itoa_m1]
    have hE : Ext w w2 := by rw [hw]; exact Lib.below_grow w.heap.size w (Nat.le_refl _) k os
    clear hw hT
    go_wp2
    go_ret
    exact ⟨rfl, hE⟩
  · obtain ⟨k, rfl⟩ := Int.eq_ofNat_of_zero_le (show 0 ≤ v by omega)
    rw [dcB, if_neg h]
    exact decimal_any k (by omega) w

set_option maxRecDepth 100000 in
set_option maxHeartbeats 1600000 in
theorem implPtx0 (a : Option Addr) (n c : Nat) (p : List (List Int)) (m : Int) (w : World) (hx : RdR w a n c p) (hm : w.cell? ⟨0, 0, none⟩ = some (.int .i64 m)) (hT : Tab w) :
    Calls Tryd.prog 10 #[.slice a n c] w fun e w' => e = .returned (.string (pqTx p)) ∧ Ext w w' := by
  have HT := Lib.hid hT
  have HM := Lib.hid hm
  clear hT hm
  go_enter Tryd.func10, Tryd.ntmps10
  go_wp2_with fail
  refine (validPartial_any _ _ _ p _ hx).mono ?_
  rintro e w2 ⟨rfl, hE⟩
  by_cases h : POk p
  · rw [pb_true h]
    have Hs := Lib.hid (pqTx_yes h)
    have hR := h.2.2.1
    have hd := hx.ext hE
    have hlen := hx.len
    have HS := Lib.hid h
    clear h
    have hD := digitRows_any dcB Tab (fun v => -1 ≤ v ∧ v ≤ 9) (fun _ _ h e => h.ext e) (fun v w hv hT => decimal_p v w hv hT) dcB_len a n c p w2 hd (by rw [hlen]; exact hR) (by rw [hlen]; exact HS.out.1) (by rw [hlen]; exact HS.out.2.1)
      (fun x y h1 h2 => by
        have hg := gr_get (p := p) (k := x) (by omega)
        have h3 := HS.out.cell _ (List.mem_of_getElem? hg)
        have hl := hR.2 x (by omega)
        exact h3.2 _ (gi_mem (by omega))) (HT.out.ext hE)
    have hjl : (txRows dcB p).length ≤ 21 * 10 := by
      refine Nat.le_trans (join_len _ 20 fun x hx => ?_) ?_
      · obtain ⟨r, hr, rfl⟩ := List.mem_map.1 hx
        have h2 := txB_len dcB_len r
        have h3 := (HS.out.cell r hr).1
        omega
      · rw [List.length_map]; have := HS.out.2.1; omega
    have hcl := Lib.count_le (txRows dcB p) [45, 49]
    have Hu := Lib.hid (un_rows (p := p) (fun xs hxs v hv => ((HS.out.cell xs hxs).2 v hv).2))
    clear hlen hR
    go_wp2_with fail
    refine hD.mono ?_
    rintro e w3 ⟨rfl, hE3⟩
    have hRA := Any.strings_ReplaceAll { Tryd.laysM155 with } Tryd.Builder_Extra_M155 (bs (txRows dcB p)) (bs [45, 49]) (bs [46]) m w3 (by rw [bs_size]; omega) ((hE.trans hE3).cell HM.out) (by decide)
      (by
        have e1 : Lib.countB (bs (txRows dcB p)) (bs [45, 49]) = Lib.count (txRows dcB p) [45, 49] := rfl
        rw [bs_size, bs_size, e1, List.length_singleton]; omega)
    have e2 : Lib.replaceAll (bs (txRows dcB p)).data.toList (bs [45, 49]).data.toList (bs [46]).data.toList = rowsP p := by
      show Lib.replaceAll (txRows dcB p) [45, 49] [46] = _
      rw [replaceAll_un]; exact Hu.out
    rw [e2] at hRA
    clear hD e2 hjl hcl
    go_wp2_with fail
    refine hRA.mono ?_
    rintro e w4 ⟨rfl, hE4⟩
    have hEf := (hE.trans hE3).trans hE4
    clear hRA
    go_wp2
    go_ret
    exact ⟨by rw [Hs.out]; rfl, hEf⟩
  · rw [pb_false h]
    have Hs := Lib.hid (pqTx_no h)
    clear h
    go_wp2
    go_ret
    exact ⟨by rw [Hs.out]; rfl, hE⟩
end Go.Proofs.YtnimmkfkijcbbaaDoor
