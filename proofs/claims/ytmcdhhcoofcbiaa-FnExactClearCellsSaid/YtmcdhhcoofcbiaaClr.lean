/- ClearCells of both. Conditions: none. -/
import Derived.Test.YtmcdhhcoofcbiaaPartI
import Derived.Test.YtmcdhhcoofcbiaaPartS
import Derived.Test.YtmcdhhcoofcbiaaSet2
import Derived.Test.YtmcdhhcoofcbiaaOwnL
import Derived.Test.YtmcdhhcoofcbiaaSl
import Derived.Test.YtmcdhhcoofcbiaaFil
namespace Go.Proofs.Ytmcdhhcoofcbiaa
open Go.RowKit

/-- Some cells of a square made empty, by their numbers. -/
def clr (p : List (List Int)) (n : Nat) : List Int → List (List Int)
  | xs => xs.foldl (fun q v => set2 q (v.toNat / n) (v.toNat % n) (-1)) p

theorem clr_nil (p : List (List Int)) (n : Nat) : clr p n [] = p := rfl
theorem clr_succ (p : List (List Int)) (n : Nat) (xs : List Int) (k : Nat) (hk : k < xs.length) : clr p n (xs.take (k + 1)) = set2 (clr p n (xs.take k)) ((gi xs k).toNat / n) ((gi xs k).toNat % n) (-1) := by
  rw [clr, clr, List.take_add_one, gi_get hk]
  simp only [Option.toList, List.foldl_append, List.foldl_cons, List.foldl_nil]

/-- The first k numbers are numbers of cells. -/
def CellsTo (n : Nat) (xs : List Int) (k : Nat) : Prop := ∀ i, i < k → 0 ≤ gi xs i ∧ gi xs i ≤ (n : Int) * (n : Int) - 1

theorem CellsTo.succ {n : Nat} {xs : List Int} {k : Nat} (h : CellsTo n xs k) (h1 : 0 ≤ gi xs k ∧ gi xs k ≤ (n : Int) * (n : Int) - 1) : CellsTo n xs (k + 1) := fun i hi => by
  by_cases e : i = k
  · subst e; exact h1
  · exact h i (by omega)

theorem div_lt' {v n : Nat} (h : (v : Int) ≤ (n : Int) * (n : Int) - 1) : v / n < n ∧ v % n < n := by
  have h2 : v < n * n := by
    have h3 : (v : Int) < ((n * n : Nat) : Int) := by rw [Int.natCast_mul]; omega
    exact_mod_cast h3
  have h0 : 0 < n := by
    rcases Nat.eq_zero_or_pos n with h4 | h4
    · subst h4; omega
    · exact h4
  exact ⟨Nat.div_lt_of_lt_mul h2, Nat.mod_lt _ h0⟩

theorem clr_rect {p : List (List Int)} {n : Nat} (hr : Rect p n n) {xs : List Int} {k : Nat} (h : CellsTo n xs k) (hk : k ≤ xs.length) : Rect (clr p n (xs.take k)) n n ∧ tot (clr p n (xs.take k)) = tot p := by
  induction k with
  | zero => rw [List.take_zero]; exact ⟨hr, rfl⟩
  | succ k ih =>
    obtain ⟨h1, h2⟩ := ih (fun i hi => h i (by omega)) (by omega)
    obtain ⟨g1, g2⟩ := h k (by omega)
    obtain ⟨d1, d2⟩ := div_lt' (v := (gi xs k).toNat) (n := n) (by omega)
    rw [clr_succ _ _ _ _ (by omega)]
    exact ⟨rect_set2 h1 _ _ _ d1, by rw [tot_set2 _ _ _ _ (by rw [h1.1]; exact d1)]; exact h2⟩

noncomputable def clrC (p : List (List Int)) (xs : List Int) : Int := if pb (POk p) then (if pb (CellsTo p.length xs xs.length) then 0 else 2) else 1
noncomputable def clrM (p : List (List Int)) (xs : List Int) : List (List Int) := if pb (POk p) then (if pb (CellsTo p.length xs xs.length) then clr p p.length xs else []) else []

theorem clrM_tot (p : List (List Int)) (xs : List Int) (h : p.length + tot p ≤ 1048576) : tot (clrM p xs) ≤ 1048576 := by
  rw [clrM]
  split
  · rename_i h0
    split
    · rename_i h1
      have := (clr_rect (pb_iff.1 h0).2.2.1 (pb_iff.1 h1) (Nat.le_refl _)).2
      rw [List.take_length] at this
      omega
    · simp [tot]
  · simp [tot]

set_option maxRecDepth 100000 in
set_option maxHeartbeats 1600000 in
theorem specClr (a : Option Addr) (n c : Nat) (p : List (List Int)) (a1 : Option Addr) (m c1 : Nat) (xs : List Int) (w : World) (hp : RdR w a n c p) (hs : p.length + tot p ≤ 1048576) (hx : RdI w a1 m c1 xs) (hm : m ≤ 1048576) :
    Calls Try.prog 47 #[.slice a n c, .slice a1 m c1] w (RetRC w (clrM p xs) (clrC p xs)) := by
  have hb1 := hp.le
  have hb2 := hp.max
  have hb3 := hx.le
  have hb4 := hx.max
  have Hl := Lib.hid hp.len
  have Hlx := Lib.hid hx.len
  by_cases h : POk p
  · have hb : pb (POk p) = true := pb_true h
    have Hb := Lib.hid hb
    have Hr : Hid (Rect p n n) := Lib.hid (by have := h.2.2.1; rwa [← Hl.out] at this)
    have hn : n ≤ 10 := by have := h.2.1; have := Hl.out; omega
    have hn0 : 1 ≤ n := by have := h.1; have := Hl.out; omega
    clear h
    have hmul : 0 ≤ (n : Int) * (n : Int) ∧ (n : Int) * (n : Int) ≤ 100 := by
      have := Nat.mul_le_mul hn hn
      exact ⟨by exact_mod_cast Nat.zero_le _, by exact_mod_cast this⟩
    obtain ⟨hmul0, hmul1⟩ := hmul
    go_enter Try.func47, Try.ntmps47
    go_wp2_with fail
    refine (l09Ok_any _ _ _ p _ hp).mono ?_
    rintro e w2 ⟨rfl, hE0⟩
    rw [hb]
    go_wp2
    go_loopg [7] m (fun gh i wr => ∃ (k : Nat), k ≤ m ∧ gh = m - k ∧ i = .int .i64 k ∧ Ext w wr ∧ Hid (CellsTo n xs k))
    case atStart => exact ⟨0, Nat.zero_le _, rfl, rfl, hE0, fun i h => absurd h (Nat.not_lt_zero _)⟩
    case round =>
      obtain ⟨k, hk, rfl, rfl, hE, Hc⟩ := hrel
      clear hE0
      by_cases hlt : k < m
      · have hz : (k : Int) < (m : Int) := by omega
        obtain ⟨b1, o1, rfl, hc⟩ := (hx.ext hE).gi hlt
        by_cases hin : 0 ≤ gi xs k ∧ gi xs k ≤ (n : Int) * (n : Int) - 1
        · have Hin := Lib.hid hin
          clear hin
          go_wp2_with fail
          refine (l00In_any _ _ _ true (decide_eq_true Hin.out) _).mono ?_
          rintro e w2 ⟨rfl, rfl⟩
          go_wp2
          go_roundg (m - (k + 1))
          case measure => go_light; omega
          case rel => go_light; exact ⟨k + 1, by omega, rfl, by go_num, hE, Hc.out.succ Hin.out⟩
        · have Hin := Lib.hid hin
          clear hin
          go_wp2_with fail
          refine (l00In_any _ _ _ false (decide_eq_false Hin.out) _).mono ?_
          rintro e w2 ⟨rfl, rfl⟩
          go_wp2
          go_ret2
          have hno : pb (CellsTo p.length xs xs.length) = false := pb_false (fun h => Hin.out (by have := h k (by have := Hlx.out; omega); rwa [← Hl.out] at this))
          exact RetRC.nil_ (by rw [clrM, if_pos Hb.out, hno]; rfl) (by rw [clrC, if_pos Hb.out, hno]; rfl) hE
      · have hz : ¬ (k : Int) < (m : Int) := by omega
        obtain rfl : m = k := by omega
        have Hall : Hid (pb (CellsTo p.length xs xs.length) = true) := Lib.hid (pb_true (by rw [← Hl.out, ← Hlx.out]; exact Hc.out))
        go_wp2_with fail
        refine (l06Own_any _ _ _ p _ (hp.ext hE) (by omega)).mono ?_
        rintro e w4 ⟨a4, n4, c4, rs, rfl, hO, hE4⟩
        obtain rfl : n = n4 := by rw [Hl.out, hO.len]
        have hE0 := hE.trans hE4
        have hO0 := hO.base hE.size
        clear hO hE4 hE hz hlt
        go_wp2
        go_loopg [9] m (fun gh i wr => ∃ (k : Nat), k ≤ m ∧ gh = m - k ∧ i = .int .i64 k ∧ Ext w wr ∧ OwnR wr w.heap.size a4 n c4 (clr p n (xs.take k)) rs)
        case atStart => exact ⟨0, Nat.zero_le _, rfl, rfl, hE0, hO0⟩
        case round =>
          obtain ⟨k, hk, rfl, rfl, hE, hO⟩ := hrel
          clear hE0 hO0
          by_cases hlt : k < m
          · have hz : (k : Int) < (m : Int) := by omega
            obtain ⟨b1, o1, rfl, hc⟩ := (hx.ext hE).gi hlt
            obtain ⟨g1, g2⟩ := Hc.out k hlt
            obtain ⟨v, hv⟩ := Int.eq_ofNat_of_zero_le g1
            rw [hv] at hc g2
            obtain ⟨d1, d2⟩ := div_lt' g2
            obtain ⟨q, hq⟩ : ∃ q, q = v / n := ⟨_, rfl⟩
            obtain ⟨r, hr⟩ : ∃ r, r = v % n := ⟨_, rfl⟩
            rw [← hq] at d1
            rw [← hr] at d2
            have hqz : (v : Int) / (n : Int) = (q : Int) := by rw [hq]; rfl
            have hrz : (v : Int) % (n : Int) = (r : Int) := by rw [hr]; rfl
            have e : clr p n (xs.take (k + 1)) = set2 (clr p n (xs.take k)) q r (-1) := by rw [clr_succ _ _ _ _ (by have := Hlx.out; omega), hv, hq, hr]; rfl
            obtain ⟨g, gg, d, rfl, hc1, hB, hc2, hf2, hset⟩ := hO.cellAt (clr_rect Hr.out (fun i hi => Hc.out i (by omega)) (by have := Hlx.out; omega)).1 d1 d2
            have hfin := hset (-1)
            rw [← e] at hfin
            have hE3 := hE.setCell (p := ⟨gg, r, none⟩) hB (.int .i64 (-1))
            have hq1 : (q : Int) < (n : Int) := by omega
            have hr1 : (r : Int) < (n : Int) := by omega
            have Hg := Lib.hid (And.intro hv (And.intro hq hr))
            clear hset hO hE e g1 g2 hv hq hr
            go_wp2_with fail
            go_region
            go_wp2
            go_roundg (m - (k + 1))
            case measure => go_light; omega
            case rel => go_light; exact ⟨k + 1, by omega, rfl, by go_num, hE3.drew, hfin.ext ((Ext.refl _).drew)⟩
          · have hz : ¬ (k : Int) < (m : Int) := by omega
            obtain rfl : m = k := by omega
            go_wp2
            go_ret2
            exact RetRC.mk_ hO (Nat.le_refl _) (by rw [clrM, if_pos Hb.out, if_pos Hall.out, ← Hl.out, List.take_of_length_le (by have := Hlx.out; omega)]) (by rw [clrC, if_pos Hb.out, if_pos Hall.out]) hE
  · have hb : pb (POk p) = false := pb_false h
    have H := Lib.hid hb
    go_enter Try.func47, Try.ntmps47
    go_wp2_with fail
    refine (l09Ok_any _ _ _ p _ hp).mono ?_
    rintro e w2 ⟨rfl, hE⟩
    rw [hb]
    go_wp2
    go_ret2
    exact RetRC.nil_ (by rw [clrM, H.out]; rfl) (by rw [clrC, H.out]; rfl) hE

set_option maxRecDepth 100000 in
set_option maxHeartbeats 1600000 in
theorem implClr (a : Option Addr) (n c : Nat) (p : List (List Int)) (a1 : Option Addr) (m c1 : Nat) (xs : List Int) (w : World) (hp : RdR w a n c p) (hs : p.length + tot p ≤ 1048576) (hx : RdI w a1 m c1 xs) (hm : m ≤ 1048576) :
    Calls Try.prog 49 #[.slice a n c, .slice a1 m c1] w (RetRC w (clrM p xs) (clrC p xs)) := by
  have hb1 := hp.le
  have hb2 := hp.max
  have hb3 := hx.le
  have hb4 := hx.max
  have Hl := Lib.hid hp.len
  have Hlx := Lib.hid hx.len
  by_cases h : POk p
  · have hb : pb (POk p) = true := pb_true h
    have Hb := Lib.hid hb
    have Hr : Hid (Rect p n n) := Lib.hid (by have := h.2.2.1; rwa [← Hl.out] at this)
    have hn : n ≤ 10 := by have := h.2.1; have := Hl.out; omega
    have hn0 : 1 ≤ n := by have := h.1; have := Hl.out; omega
    clear h
    have hmul : 0 ≤ (n : Int) * (n : Int) ∧ (n : Int) * (n : Int) ≤ 100 := by
      have := Nat.mul_le_mul hn hn
      exact ⟨by exact_mod_cast Nat.zero_le _, by exact_mod_cast this⟩
    obtain ⟨hmul0, hmul1⟩ := hmul
    go_enter Try.func49, Try.ntmps49
    go_wp2_with fail
    refine (validPartial_any _ _ _ p _ hp).mono ?_
    rintro e w2 ⟨rfl, hE0⟩
    rw [hb]
    go_wp2_with fail
    refine (sizeR_any _ _ _ _).mono ?_
    rintro e w3 ⟨rfl, rfl⟩
    go_wp2_with fail
    refine (copyLists_any _ _ _ p _ (hp.ext hE0) (by omega)).mono ?_
    rintro e w4 ⟨a4, n4, c4, rs, rfl, hO, hE4⟩
    obtain rfl : n = n4 := by rw [Hl.out, hO.len]
    have hE := hE0.trans hE4
    have hO0 := hO.base hE0.size
    clear hO hE4 hE0
    go_wp2
    go_loopg [19] m (fun gh i wr => ∃ (k : Nat), k ≤ m ∧ gh = m - k ∧ i = .int .i64 k ∧ Ext w wr ∧ OwnR wr w.heap.size a4 n c4 (clr p n (xs.take k)) rs ∧ Hid (CellsTo n xs k))
    case atStart => exact ⟨0, Nat.zero_le _, rfl, rfl, hE, hO0, fun i h => absurd h (Nat.not_lt_zero _)⟩
    case round =>
      clear hE hO0
      obtain ⟨k, hk, rfl, rfl, hE, hO, Hc⟩ := hrel
      by_cases hlt : k < m
      · have hz : (k : Int) < (m : Int) := by omega
        obtain ⟨b1, o1, rfl, hc⟩ := (hx.ext hE).gi hlt
        by_cases hin : 0 ≤ gi xs k ∧ gi xs k ≤ (n : Int) * (n : Int) - 1
        · have Hin := Lib.hid hin
          obtain ⟨g1, g2⟩ := hin
          obtain ⟨v, hv⟩ := Int.eq_ofNat_of_zero_le g1
          have hin2 := Hin.out
          rw [hv] at hc g2 hin2
          have Hin2 := Lib.hid hin2
          obtain ⟨d1, d2⟩ := div_lt' g2
          obtain ⟨q, hq⟩ : ∃ q, q = v / n := ⟨_, rfl⟩
          obtain ⟨r, hr⟩ : ∃ r, r = v % n := ⟨_, rfl⟩
          rw [← hq] at d1
          rw [← hr] at d2
          have hqz : (v : Int) / (n : Int) = (q : Int) := by rw [hq]; rfl
          have hrz : (v : Int) % (n : Int) = (r : Int) := by rw [hr]; rfl
          have e : clr p n (xs.take (k + 1)) = set2 (clr p n (xs.take k)) q r (-1) := by rw [clr_succ _ _ _ _ (by have := Hlx.out; omega), hv, hq, hr]; rfl
          obtain ⟨g, gg, d, rfl, hc1, hB, hc2, hf2, hset⟩ := hO.cellAt (clr_rect Hr.out (fun i hi => Hc.out i (by omega)) (by have := Hlx.out; omega)).1 d1 d2
          have hfin := hset (-1)
          rw [← e] at hfin
          have hE3 := hE.setCell (p := ⟨gg, r, none⟩) hB (.int .i64 (-1))
          have hq1 : (q : Int) < (n : Int) := by omega
          have hr1 : (r : Int) < (n : Int) := by omega
          have Hg := Lib.hid (And.intro hv (And.intro hq hr))
          clear hset hO hE e g1 g2 hv hq hr hin2
          go_wp2_with fail
          refine (within_any _ _ _ true (decide_eq_true Hin2.out) _).mono ?_
          rintro e w2 ⟨rfl, rfl⟩
          go_wp2_with fail
          go_region
          go_wp2
          go_roundg (m - (k + 1))
          case measure => go_light; omega
          case rel => go_light; exact ⟨k + 1, by omega, rfl, by go_num, hE3.drew, hfin.ext ((Ext.refl _).drew), Hc.out.succ Hin.out⟩
        · have Hin := Lib.hid hin
          clear hin hO
          go_wp2_with fail
          refine (within_any _ _ _ false (decide_eq_false Hin.out) _).mono ?_
          rintro e w2 ⟨rfl, rfl⟩
          go_wp2
          go_ret2
          have hno : pb (CellsTo p.length xs xs.length) = false := pb_false (fun h => Hin.out (by have := h k (by have := Hlx.out; omega); rwa [← Hl.out] at this))
          exact RetRC.nil_ (by rw [clrM, if_pos Hb.out, hno]; rfl) (by rw [clrC, if_pos Hb.out, hno]; rfl) hE
      · have hz : ¬ (k : Int) < (m : Int) := by omega
        obtain rfl : m = k := by omega
        have Hall : Hid (pb (CellsTo p.length xs xs.length) = true) := Lib.hid (pb_true (by rw [← Hl.out, ← Hlx.out]; exact Hc.out))
        go_wp2
        go_ret2
        exact RetRC.mk_ hO (Nat.le_refl _) (by rw [clrM, if_pos Hb.out, if_pos Hall.out, ← Hl.out, List.take_of_length_le (by have := Hlx.out; omega)]) (by rw [clrC, if_pos Hb.out, if_pos Hall.out]) hE
  · have hb : pb (POk p) = false := pb_false h
    have H := Lib.hid hb
    go_enter Try.func49, Try.ntmps49
    go_wp2_with fail
    refine (validPartial_any _ _ _ p _ hp).mono ?_
    rintro e w2 ⟨rfl, hE⟩
    rw [hb]
    go_wp2
    go_ret2
    exact RetRC.nil_ (by rw [clrM, H.out]; rfl) (by rw [clrC, H.out]; rfl) hE
end Go.Proofs.Ytmcdhhcoofcbiaa
