/- Finding a list in an ordered list of lists, and putting one in, by the reference. Conditions: none. -/
import Derived.Test.YtjlfngnmmmaefaaSrf
import Derived.Test.YtjlfngnmmmaefaaRos
import Derived.Test.YtjlfngnmmmaefaaUnitP
namespace Go.Proofs.Ytjlfngnmmmaefaa
open Go.RowKit

theorem lt_of_le_lt {x y z : List Int} (h1 : leL x y) (h2 : cmpL y z < 0) : cmpL x z < 0 := by
  rcases leL_iff.1 h1 with h | h
  · exact ltL_trans h h2
  · subst h; exact h2
theorem gt_of_le {x y z : List Int} (h1 : leL x y) (h2 : 0 < cmpL x z) : 0 < cmpL y z := by
  apply Classical.byContradiction
  intro h
  have := leL_trans h1 (show leL y z from by unfold leL; omega)
  unfold leL at this
  omega
theorem SortedLL.le {xss : List (List Int)} (h : SortedLL xss) {i j : Nat} (hij : i ≤ j) (hj : j < xss.length) : leL (gr xss i) (gr xss j) := by
  by_cases e : i = j
  · subst e; unfold leL; rw [cmpL_self]; exact Int.le_refl _
  · have := List.pairwise_iff_getElem.1 h i j (by omega) hj (by omega)
    rw [← gr_of (List.getElem?_eq_getElem _), ← gr_of (List.getElem?_eq_getElem _)] at this
    exact this

theorem Own.some_of {α : Type} {E : TypeId} {f : α → Value} {w : World} {B n c : Nat} {a : Option Addr} {xs : List α} (h : Own E f w B a n c xs) (hn : n ≠ 0) : ∃ b, a = some ⟨b, 0, none⟩ := by
  rcases h.cases with ⟨_, h3, _⟩ | ⟨g, _, h3, _⟩
  · exact absurd h3 hn
  · exact ⟨g, h3⟩

/-- Where a list stands, or would stand. -/
def FoundAt (xss : List (List Int)) (p : List Int) (k : Nat) : Prop :=
  k ≤ xss.length ∧ (p ∈ xss → k < xss.length ∧ gr xss k = p) ∧ (¬ p ∈ xss → (∀ j, j < k → cmpL (gr xss j) p < 0) ∧ ∀ j, k ≤ j → j < xss.length → 0 < cmpL (gr xss j) p)
theorem not_found {xss : List (List Int)} {p : List Int} {k : Nat} (h1 : ∀ j, j < k → cmpL (gr xss j) p < 0) (h2 : ∀ j, k ≤ j → j < xss.length → 0 < cmpL (gr xss j) p) : ¬ p ∈ xss := fun hm => by
  obtain ⟨j, hj, rfl⟩ := mem_gr hm
  have := cmpL_self (gr xss j)
  by_cases e : j < k
  · have := h1 j e; omega
  · have := h2 j (by omega) hj; omega

set_option maxRecDepth 100000 in
set_option maxHeartbeats 1600000 in
theorem l05Find_any (a : Option Addr) (n c : Nat) (xss : List (List Int)) (a' : Option Addr) (m c' : Nat) (p : List Int) (w : World) (hx : RdR w a n c xss) (hp : RdI w a' m c' p) (hs : SortedLL xss) (hn : n ≤ 1048576) :
    Calls Try.prog 69 #[.slice a n c, .slice a' m c'] w fun e w' => ∃ k : Nat, e = .returned (.tuple #[.int .i64 k, .bool (pb (p ∈ xss))]) ∧ Q w w' ∧ Hid (FoundAt xss p k) := by
  have hb1 := hx.le
  have hb2 := hx.max
  have Hl := Lib.hid hx.len
  have Hs := Lib.hid hs
  clear hs
  go_enter Try.func69, Try.ntmps69
  go_wp2
  go_loopg [6, 7] (1 * n) (fun gh s i wr => ∃ lo hi : Nat, lo ≤ hi ∧ hi ≤ n ∧ gh = 1 * (hi - lo) ∧ s = .int .i64 lo ∧ i = .int .i64 hi ∧ Q w wr ∧ Hid ((∀ j, j < lo → cmpL (gr xss j) p < 0) ∧ ∀ j, hi ≤ j → j < n → 0 < cmpL (gr xss j) p))
  case atStart => exact ⟨0, n, Nat.zero_le _, Nat.le_refl _, by omega, rfl, rfl, Q.refl _, Lib.hid ⟨fun j h => absurd h (Nat.not_lt_zero _), fun j h1 h2 => by omega⟩⟩
  case round =>
    obtain ⟨lo, hi, h1, h2, rfl, rfl, rfl, hQ, HJ⟩ := hrel
    by_cases hlt : lo < hi
    · have hz : (lo : Int) < (hi : Int) := by omega
      obtain ⟨mid, hmid⟩ : ∃ mid, mid = (lo + hi) / 2 := ⟨_, rfl⟩
      have hm1 : lo ≤ mid := by omega
      have hm2 : mid < hi := by omega
      have hq : ((lo : Int) + (hi : Int)) / 2 = (mid : Int) := by omega
      have hz2 : (mid : Int) < (n : Int) := by omega
      obtain ⟨b, o, ai, ni, ci, rfl, hc, hrow⟩ := (hx.ext hQ.ext).gr (k := mid) (by omega)
      have hmL : mid < xss.length := by rw [← Hl.out]; omega
      have HmL := Lib.hid hmL
      clear hmid hmL
      go_wp2_with fail
      refine (cmpLists_any ai a' ni ci m c' (gr xss mid) p _ hrow (hp.ext hQ.ext)).mono ?_
      rintro e w2 ⟨rfl, hQ2⟩
      have hQ3 := hQ.trans hQ2
      clear hQ hQ2 hc hrow
      by_cases e0 : cmpL (gr xss mid) p = 0
      · have e0b : (cmpL (gr xss mid) p == 0) = true := by simp [e0]
        have hpe := cmpL_zero.1 e0
        have hmem : Hid (p ∈ xss) := Lib.hid (by rw [← hpe]; exact List.mem_of_getElem? (gr_get HmL.out))
        have Hpe := Lib.hid hpe
        clear e0 hpe
        go_wp2
        go_ret2
        exact ⟨mid, by rw [pb_true hmem.out]; rfl, hQ3, Lib.hid ⟨by have := HmL.out; omega, fun _ => ⟨HmL.out, Hpe.out⟩, fun h => absurd hmem.out h⟩⟩
      · have e0b : (cmpL (gr xss mid) p == 0) = false := by simp [e0]
        by_cases e1 : cmpL (gr xss mid) p < 0
        · have e1b : decide (cmpL (gr xss mid) p < 0) = true := decide_eq_true e1
          have HJ2 : Hid ((∀ j, j < mid + 1 → cmpL (gr xss j) p < 0) ∧ ∀ j, hi ≤ j → j < n → 0 < cmpL (gr xss j) p) := Lib.hid ⟨fun j hj => lt_of_le_lt (Hs.out.le (show j ≤ mid by omega) HmL.out) e1, HJ.out.2⟩
          clear e0 e1
          go_wp2
          go_roundg (1 * (hi - (mid + 1)))
          case measure => go_light; omega
          case rel => go_light; exact ⟨mid + 1, hi, by omega, h2, rfl, by go_num, rfl, hQ3, HJ2⟩
        · have e1b : decide (cmpL (gr xss mid) p < 0) = false := decide_eq_false e1
          have HJ2 : Hid ((∀ j, j < lo → cmpL (gr xss j) p < 0) ∧ ∀ j, mid ≤ j → j < n → 0 < cmpL (gr xss j) p) := Lib.hid ⟨HJ.out.1, fun j hj hjn => gt_of_le (Hs.out.le hj (by rw [← Hl.out]; exact hjn)) (by omega)⟩
          clear e0 e1
          go_wp2
          go_roundg (1 * (mid - lo))
          case measure => go_light; omega
          case rel => go_light; exact ⟨lo, mid, hm1, by omega, rfl, rfl, rfl, hQ3, HJ2⟩
    · have hz : ¬ (lo : Int) < (hi : Int) := by omega
      obtain rfl : lo = hi := by omega
      have hnf : Hid (¬ p ∈ xss) := Lib.hid (not_found HJ.out.1 (by have := HJ.out.2; rwa [Hl.out] at this))
      go_wp2
      go_ret2
      exact ⟨lo, by rw [pb_false hnf.out]; rfl, hQ, Lib.hid ⟨by rw [← Hl.out]; exact h2, fun h => absurd h hnf.out, fun _ => ⟨HJ.out.1, by have := HJ.out.2; rwa [Hl.out] at this⟩⟩⟩

set_option maxRecDepth 100000 in
set_option maxHeartbeats 1600000 in
theorem l05Put_any (b3 : Nat) (n c : Nat) (rs : List Row) (k : Nat) (ar : Option Addr) (nr cr : Nat) (w : World) (h : RdT w (some ⟨b3, 0, none⟩) n c rs) (hk : k ≤ n) (hn : n ≤ 1048576) :
    Calls Try.prog 91 #[.slice (some ⟨b3, 0, none⟩) n c, .int .i64 k, .slice ar nr cr] w fun e w' => ∃ b' m' c', e = .returned (.slice (some ⟨b', 0, none⟩) m' c') ∧ Hid (m' = n + 1) ∧ OwnT w' w.heap.size (some ⟨b', 0, none⟩) m' c' (rs.take k ++ (ar, nr, cr) :: rs.drop k) ∧ Ext w w' := by
  have hb1 := h.le
  have hb2 := h.max
  have Hl := Lib.hid h.len
  have hkz : (k : Int) ≤ (n : Int) := by omega
  have hkc : (k : Int) ≤ (c : Int) := by omega
  have hTail := Rd.from_ h (m := k) hk
  rw [Nat.zero_add] at hTail
  have hN0 : OwnT (w.alloc (.cells #[] 26)) w.heap.size (some ⟨w.heap.size, 0, none⟩) 0 0 [] := Own.empty 26 Row.val w
  have hT1 : RdT (w.alloc (.cells #[] 26)) (some ⟨b3, 0, none⟩) k c (rs.take k) := Rd.ext lastsRow (Rd.cut h (m := k) hk) ((Ext.refl w).alloc _)
  go_enter Try.func91, Try.ntmps91
  by_cases hcut : c = k
  · have Hcut := Lib.hid hcut
    have hcutT : (c = k) = True := eq_true hcut
    clear hcut
    go_wp2_with (first | (at_builtin; refine app_rows rfl _ _ rfl hr2 hszC hT3 (by omega) rfl rfl ?_; intro ad3 c4 w4 hr3 ho3 hm3) | (at_builtin; refine app_T rfl _ _ rfl h11 hsz1 rfl (by omega) rfl rfl ?_; intro ad2 c2 w3 hr2 ho2 hm2; have E3 : Ext w w3 := E1.app h11 ho2 (Nat.le_refl _); have hszC := E3.size; have hT3 := rd_none (R := IsRow) (w := w3) (b := b3) (o := 0) (n := n - k) (c := c - k) (by have := Hcut.out; omega) (by omega)) | (at_builtin; refine app_rows rfl _ _ rfl hN0 (by simp) hT1 (by omega) rfl rfl ?_; intro ad1 c1 w1 hr1 ho1 hm1; have E1 : Ext w w1 := ((Ext.refl w).alloc _).app hN0 ho1 (Nat.le_refl _); have hsz1 := E1.size; have h11 : OwnT w1 w.heap.size ad1 k c1 (rs.take k) := by simpa using hr1))
    rw [List.append_assoc, List.singleton_append] at hr3
    have hJm : rs.drop k = [] := List.drop_eq_nil_of_le (by have := Hl.out; have := Hcut.out; omega)
    rw [← hJm] at hr3
    have E4 : Ext w w4 := E3.app hr2 ho3 (Nat.le_refl _)
    obtain ⟨b', rfl⟩ := hr3.some_of (by omega)
    go_wp2
    go_ret
    exact ⟨b', _, _, rfl, Lib.hid (by omega), hr3, E4⟩
  · skip
    go_wp2_with (first | (at_builtin; refine app_rows rfl _ _ rfl hr2 hszC hT3 (by omega) rfl rfl ?_; intro ad3 c4 w4 hr3 ho3 hm3) | (at_builtin; refine app_T rfl _ _ rfl h11 hsz1 rfl (by omega) rfl rfl ?_; intro ad2 c2 w3 hr2 ho2 hm2; have E3 : Ext w w3 := E1.app h11 ho2 (Nat.le_refl _); have hszC := E3.size; have hT3 := Rd.ext lastsRow hTail E3) | (at_builtin; refine app_rows rfl _ _ rfl hN0 (by simp) hT1 (by omega) rfl rfl ?_; intro ad1 c1 w1 hr1 ho1 hm1; have E1 : Ext w w1 := ((Ext.refl w).alloc _).app hN0 ho1 (Nat.le_refl _); have hsz1 := E1.size; have h11 : OwnT w1 w.heap.size ad1 k c1 (rs.take k) := by simpa using hr1))
    rw [List.append_assoc, List.singleton_append] at hr3
    have E4 : Ext w w4 := E3.app hr2 ho3 (Nat.le_refl _)
    obtain ⟨b', rfl⟩ := hr3.some_of (by omega)
    go_wp2
    go_ret
    exact ⟨b', _, _, rfl, Lib.hid (by omega), hr3, E4⟩
end Go.Proofs.Ytjlfngnmmmaefaa
