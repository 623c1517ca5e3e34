/- slices.BinarySearchFunc by slices.Compare on ordered rows. Conditions: none. -/
import Derived.Test.YtjlfngnmmmaefaaFnd
namespace Go.Proofs.Ytjlfngnmmmaefaa
open Go.RowKit

theorem found_iff {xss : List (List Int)} {p : List Int} {k : Nat} (hs : SortedLL xss) (h1 : ∀ j, j < k → cmpL (gr xss j) p < 0) (h2 : ∀ j, k ≤ j → j < xss.length → 0 ≤ cmpL (gr xss j) p) : p ∈ xss ↔ k < xss.length ∧ cmpL (gr xss k) p = 0 := by
  constructor
  · intro hm
    obtain ⟨j, hj, rfl⟩ := mem_gr hm
    have hjk : k ≤ j := by
      apply Classical.byContradiction
      intro h
      have := h1 j (by omega)
      rw [cmpL_self] at this
      omega
    have hk : k < xss.length := by omega
    have h3 := h2 k (Nat.le_refl _) hk
    have h4 := hs.le hjk hj
    unfold leL at h4
    exact ⟨hk, by omega⟩
  · rintro ⟨hk, he⟩
    rw [← cmpL_zero.1 he]
    exact List.mem_of_getElem? (gr_get hk)

set_option maxRecDepth 100000 in
set_option maxHeartbeats 1600000 in
theorem slBs_any (a : Option Addr) (n c : Nat) (xss : List (List Int)) (a' : Option Addr) (m c' : Nat) (p : List Int) (w : World) (hx : RdR w a n c xss) (hp : RdI w a' m c' p) (hs : SortedLL xss) (hn : n ≤ 1048576) :
    Calls Try.prog 98 #[.slice a n c, .slice a' m c', .func (.func 67) #[] #[]] w fun e w' => w = w' ∧ ∃ k : Nat, e = .returned (.tuple #[.int .i64 k, .bool (pb (p ∈ xss))]) := by
  have hb1 := hx.le
  have hb2 := hx.max
  have Hl := Lib.hid hx.len
  have Hs := Lib.hid hs
  clear hs
  have hen : ∀ (args : Array Value) (w : World), (callFunc 67 args).run Try.prog w = .ok (.enter 67 args) w := enters_of Try.func67 (by kernel_rfl) rfl
  go_enter Try.func98, Try.ntmps98
  go_wp2
  go_loopg [9, 10] (1 * n) (fun gh s i wr => ∃ lo hi : Nat, lo ≤ hi ∧ hi ≤ n ∧ gh = 1 * (hi - lo) ∧ s = .int .i64 lo ∧ i = .int .i64 hi ∧ w = wr ∧ Hid ((∀ j, j < lo → cmpL (gr xss j) p < 0) ∧ ∀ j, hi ≤ j → j < n → 0 ≤ cmpL (gr xss j) p))
  case atStart => exact ⟨0, n, Nat.zero_le _, Nat.le_refl _, by omega, rfl, rfl, rfl, Lib.hid ⟨fun j h => absurd h (Nat.not_lt_zero _), fun j h1 h2 => by omega⟩⟩
  case round =>
    obtain ⟨lo, hi, h1, h2, rfl, rfl, rfl, rfl, HJ⟩ := hrel
    by_cases hlt : lo < hi
    · have hz : (lo : Int) < (hi : Int) := by omega
      obtain ⟨mid, hmid⟩ : ∃ mid, mid = (lo + hi) / 2 := ⟨_, rfl⟩
      have hm1 : lo ≤ mid := by omega
      have hm2 : mid < hi := by omega
      have hq : ((lo : Int) + (hi : Int)) / 2 = (mid : Int) := by omega
      have hz2 : (mid : Int) < (n : Int) := by omega
      obtain ⟨b, o, ai, ni, ci, rfl, hc, hrow⟩ := hx.gr (k := mid) (by omega)
      have hmL : mid < xss.length := by rw [← Hl.out]; omega
      have HmL := Lib.hid hmL
      clear hmid hmL
      go_wp2_with fail
      refine (slCompare_any ai a' ni ci m c' (gr xss mid) p _ hrow hp).mono ?_
      rintro e w2 ⟨rfl, rfl⟩
      clear hc hrow
      by_cases e1 : cmpL (gr xss mid) p < 0
      · have e1b : decide (cmpL (gr xss mid) p < 0) = true := decide_eq_true e1
        have HJ2 : Hid ((∀ j, j < mid + 1 → cmpL (gr xss j) p < 0) ∧ ∀ j, hi ≤ j → j < n → 0 ≤ cmpL (gr xss j) p) := Lib.hid ⟨fun j hj => lt_of_le_lt (Hs.out.le (show j ≤ mid by omega) HmL.out) e1, HJ.out.2⟩
        clear e1
        go_wp2
        go_roundg (1 * (hi - (mid + 1)))
        case measure => go_light; omega
        case rel => go_light; exact ⟨mid + 1, hi, by omega, h2, rfl, by go_num, rfl, rfl, HJ2⟩
      · have e1b : decide (cmpL (gr xss mid) p < 0) = false := decide_eq_false e1
        have HJ2 : Hid ((∀ j, j < lo → cmpL (gr xss j) p < 0) ∧ ∀ j, mid ≤ j → j < n → 0 ≤ cmpL (gr xss j) p) := Lib.hid ⟨HJ.out.1, fun j hj hjn => by
          apply Classical.byContradiction
          intro h9
          exact e1 (lt_of_le_lt (Hs.out.le hj (by rw [← Hl.out]; exact hjn)) (by omega))⟩
        clear e1
        go_wp2
        go_roundg (1 * (mid - lo))
        case measure => go_light; omega
        case rel => go_light; exact ⟨lo, mid, hm1, by omega, rfl, rfl, rfl, rfl, HJ2⟩
    · have hz : ¬ (lo : Int) < (hi : Int) := by omega
      obtain rfl : lo = hi := by omega
      have Hiff := Lib.hid (found_iff Hs.out HJ.out.1 (by have := HJ.out.2; rwa [Hl.out] at this))
      by_cases hln : lo < n
      · have hz2 : (lo : Int) < (n : Int) := by omega
        obtain ⟨b, o, ai, ni, ci, rfl, hc, hrow⟩ := hx.gr hln
        go_wp2_with fail
        refine (slCompare_any ai a' ni ci m c' (gr xss lo) p _ hrow hp).mono ?_
        rintro e w2 ⟨rfl, rfl⟩
        by_cases e0 : cmpL (gr xss lo) p = 0
        · have e0b : (cmpL (gr xss lo) p == 0) = true := by simp [e0]
          have hmem : Hid (p ∈ xss) := Lib.hid (Hiff.out.2 ⟨by rw [← Hl.out]; exact hln, e0⟩)
          clear e0
          go_wp2
          go_ret2
          exact ⟨rfl, lo, by rw [pb_true hmem.out]; rfl⟩
        · have e0b : (cmpL (gr xss lo) p == 0) = false := by simp [e0]
          have hmem : Hid (¬ p ∈ xss) := Lib.hid (fun h => e0 (Hiff.out.1 h).2)
          clear e0
          go_wp2
          go_ret2
          exact ⟨rfl, lo, by rw [pb_false hmem.out]; rfl⟩
      · have hz2 : ¬ (lo : Int) < (n : Int) := by omega
        have hmem : Hid (¬ p ∈ xss) := Lib.hid (fun h => hln (by rw [Hl.out]; exact (Hiff.out.1 h).1))
        go_wp2
        go_ret2
        exact ⟨rfl, lo, by rw [pb_false hmem.out]; rfl⟩
end Go.Proofs.Ytjlfngnmmmaefaa
