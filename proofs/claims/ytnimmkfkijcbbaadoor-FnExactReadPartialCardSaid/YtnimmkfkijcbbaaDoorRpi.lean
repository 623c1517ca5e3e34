/- ReadPartial of impl. Conditions: none. -/
import Derived.Test.YtnimmkfkijcbbaaDoorRsq
import Derived.Test.YtnimmkfkijcbbaaDoorPts
namespace Go.Proofs.YtnimmkfkijcbbaaDoor
open Go.RowKit

/-- The first k of a list changed, the others as they are. -/
def mg {α : Type} (f : α → α) (xs : List α) (k : Nat) : List α := (xs.take k).map f ++ xs.drop k
theorem mg_zero {α : Type} (f : α → α) (xs : List α) : mg f xs 0 = xs := by simp [mg]
theorem mg_end {α : Type} (f : α → α) (xs : List α) {k : Nat} (h : xs.length ≤ k) : mg f xs k = xs.map f := by
  rw [mg, List.take_of_length_le h, List.drop_of_length_le h, List.append_nil]
theorem mg_cons {α : Type} (f : α → α) (x : α) (xs : List α) (k : Nat) : mg f (x :: xs) (k + 1) = f x :: mg f xs k := by simp [mg]
theorem mg_get {α : Type} (f : α → α) : ∀ (xs : List α) (k : Nat), (mg f xs k)[k]? = xs[k]? := by
  intro xs
  induction xs with
  | nil => intro k; simp [mg]
  | cons x xs ih =>
    intro k
    cases k with
    | zero => rw [mg_zero]
    | succ k => rw [mg_cons, List.getElem?_cons_succ, List.getElem?_cons_succ, ih k]
theorem mg_set {α : Type} (f : α → α) : ∀ (xs : List α) (k : Nat) (x : α), xs[k]? = some x → (mg f xs k).set k (f x) = mg f xs (k + 1) := by
  intro xs
  induction xs with
  | nil => intro k x h; simp at h
  | cons y xs ih =>
    intro k x h
    cases k with
    | zero =>
      simp at h; subst h
      rw [mg_zero, mg_cons, mg_zero]; rfl
    | succ k => rw [mg_cons, mg_cons, List.set_cons_succ, ih k x (by simpa using h)]
theorem mg_keep {α : Type} (f : α → α) {xs : List α} {k : Nat} {x : α} (h : xs[k]? = some x) (e : f x = x) : mg f xs k = mg f xs (k + 1) := by
  rw [← mg_set f xs k x h, e]
  refine (List.ext_getElem? fun i => ?_)
  rw [List.getElem?_set]
  split
  · rename_i hi; subst hi
    split
    · rw [mg_get]; exact h
    · rename_i hl; rw [List.getElem?_eq_none (by omega)]
  · rfl

set_option maxRecDepth 100000 in
set_option maxHeartbeats 3200000 in
theorem implRpt (s : List UInt8) (m : Int) (w : World) (hm : w.cell? ⟨0, 0, none⟩ = some (.int .i64 m)) (hT : Tab w) (hs : s.length ≤ 1048576) :
    Calls Tryd.prog 13 #[.string (bs s)] w (RetRB w (rpM s) (pb (POk (rdP s)))) := by
  have hR := readDigitRows_any s m w hm hs
  have HM := Lib.hid hm
  have HT := Lib.hid hT
  have hpl := parts_len s
  obtain ⟨N, hN⟩ : ∃ N, (parts s).length = N := ⟨_, rfl⟩
  have HN := Lib.hid hN
  have hNb : N ≤ 1048577 := by omega
  clear hN hpl hT hm
  go_enter Tryd.func13, Tryd.ntmps13
  go_wp2_with fail
  refine hR.mono ?_
  rintro e w1 ⟨a, n, c, rs, rfl, hO1, hE1⟩
  obtain rfl : n = N := by rw [← HN.out, ← rdRows_len]; exact hO1.len
  clear hR
  go_wp2
  go_loopg [13] n (fun gh i wr => ∃ (k : Nat), k ≤ n ∧ gh = n - k ∧ i = .int .i64 k ∧ OwnR wr w.heap.size a n c (mg (·.map fx) (rdRows s) k) rs ∧ Ext w wr)
  case atStart => exact ⟨0, Nat.zero_le _, rfl, rfl, by rw [mg_zero]; exact hO1, hE1⟩
  case round =>
    obtain ⟨k, hk, rfl, rfl, hO, hE⟩ := hrel
    by_cases hlt : k < n
    · obtain ⟨g, r, xs, rfl, hgB, hcell, _, hI, Hr, Hx⟩ := hO.at_ hlt
      obtain ⟨ar, nr, cr⟩ := r
      have hx := Hx.out
      rw [mg_get] at hx
      have hxl : xs.length ≤ 1048576 := by
        rw [rdRows, List.getElem?_map] at hx
        obtain ⟨p, hp, rfl⟩ := Option.map_eq_some_iff.1 hx
        rw [List.length_map]
        exact Nat.le_trans (part_len (List.mem_of_getElem? hp)) hs
      have HX := Lib.hid hx
      have hnr : nr = xs.length := hI.len
      subst hnr
      dsimp only at hcell hI
      clear hx
      have HI0 : OwnI wr w.heap.size ar xs.length cr (mg fx xs 0) := by rw [mg_zero]; exact hI
      clear hI
      go_wp2
      go_loopg [19] xs.length (fun gh i wi => ∃ (j : Nat), j ≤ xs.length ∧ gh = xs.length - j ∧ i = .int .i64 j ∧ OwnI wi w.heap.size ar xs.length cr (mg fx xs j) ∧ Only (fun b => blk ar = some b) wr wi)
      case atStart => exact ⟨0, Nat.zero_le _, rfl, rfl, HI0, Only.refl _ _⟩
      case round =>
        clear HI0
        obtain ⟨j, hj, rfl, rfl, hI, hOn⟩ := hrel
        by_cases hlj : j < xs.length
        · obtain ⟨gr, x, rfl, hB2, hc2, hf2, hx2⟩ := hI.at_ hlj
          have hxj := hx2.out
          rw [mg_get] at hxj
          have HXj := Lib.hid hxj
          clear hxj
          by_cases hd : x = -2
          · have hb : (x == -2) = true := by subst hd; rfl
            have hset := hI.set rfl (k := j) (-1)
            have e1 : (mg fx xs j).set j (-1) = mg fx xs (j + 1) := by
              have := mg_set fx xs j x HXj.out
              rw [show fx x = -1 by subst hd; rfl] at this
              exact this
            rw [e1] at hset
            have hOn2 := hOn.setCell (p := ⟨gr, j, none⟩) (show blk (some (⟨gr, 0, none⟩ : Addr)) = some gr from rfl) (.int .i64 (-1))
            clear hd e1 hI hOn
            go_wp2
            go_roundg (xs.length - (j + 1))
            case measure => go_light; omega
            case rel =>
              go_light
              exact ⟨j + 1, hlj, rfl, by go_num, hset, hOn2⟩
          · have hb : (x == -2) = false := by simp [hd]
            have e1 : mg fx xs j = mg fx xs (j + 1) := mg_keep fx HXj.out (by rw [fx, if_neg hd])
            rw [e1] at hI
            clear hd e1
            go_wp2
            go_roundg (xs.length - (j + 1))
            case measure => go_light; omega
            case rel =>
              go_light
              exact ⟨j + 1, hlj, rfl, by go_num, hI, hOn⟩
        · obtain rfl : j = xs.length := by omega
          rw [mg_end fx xs (Nat.le_refl _)] at hI
          have hRow := hO.only_row Hr.out hOn hI
          have e1 : (mg (·.map fx) (rdRows s) k).set k (xs.map fx) = mg (·.map fx) (rdRows s) (k + 1) := mg_set (·.map fx) (rdRows s) k xs HX.out
          rw [e1] at hRow
          have hE3 := hE.only hOn (fun b hb => (hI.lt hb).1)
          clear hI hOn hO e1
          go_wp2
          go_roundg (n - (k + 1))
          case measure => go_light; omega
          case rel =>
            go_light
            exact ⟨k + 1, hlt, rfl, by go_num, hRow, hE3⟩
    · obtain rfl : k = n := by omega
      rw [mg_end _ _ (by rw [rdRows_len, HN.out]; exact Nat.le_refl _)] at hO
      have hOf : OwnR wr w.heap.size a k c (rdP s) rs := hO
      clear hO hO1
      by_cases h : POk (rdP s)
      · have H := Lib.hid h
        have hTx := pqTx_rd h
        clear h
        have hV := validPartial_any a k c (rdP s) wr hOf.rd
        rw [pb_true H.out] at hV
        go_wp2_with fail
        refine hV.mono ?_
        rintro e w3 ⟨rfl, hE3⟩
        have hO3 := hOf.ext hE3
        have hEw := hE.trans hE3
        have hS := implPtx0 a k c (rdP s) m w3 hO3.rd (hEw.cell HM.out) (HT.out.ext hEw)
        rw [hTx] at hS
        clear hOf hV
        go_wp2_with fail
        refine hS.mono ?_
        rintro e w4 ⟨rfl, hE4⟩
        have hO4 := hO3.ext hE4
        have hEf := hEw.trans hE4
        clear hO3 hS
        go_wp2
        go_ret2
        exact RetRB.mk_ hO4 (Nat.le_refl _) (rpM_yes H.out).symm (pb_true H.out).symm hEf
      · have H := Lib.hid h
        clear h
        have hV := validPartial_any a k c (rdP s) wr hOf.rd
        rw [pb_false H.out] at hV
        clear hOf
        go_wp2_with fail
        refine hV.mono ?_
        rintro e w3 ⟨rfl, hE3⟩
        have hEf := hE.trans hE3
        clear hV
        go_wp2
        go_ret2
        exact RetRB.nil_ (rpM_no H.out).symm (pb_false H.out).symm hEf
end Go.Proofs.YtnimmkfkijcbbaaDoor
