/- Inverse and composition of permutations, by both. Conditions: none. -/
import Derived.Test.YtkapkieeafhaoaaPermP
import Derived.Test.YtkapkieeafhaoaaTo
namespace Go.Proofs.Ytkapkieeafhaoaa
open Go.RowKit

/-- All numbers lie below m. -/
def Below_ (xs : List Int) (m : Nat) : Prop := ∀ i, i < xs.length → ∃ y : Nat, gi xs i = y ∧ y < m

theorem IsPerm.below {xs : List Int} (h : IsPerm xs) : Below_ xs xs.length := fun i hi => by
  have := h.2 _ (gi_mem hi)
  exact ⟨(gi xs i).toNat, by omega, by omega⟩

/-- The inverse, as far as the first k points. -/
def invTo (xs : List Int) (n : Nat) : Nat → List Int
  | 0 => List.replicate n 0
  | k + 1 => (invTo xs n k).set (gi xs k).toNat (k : Int)
def inv (xs : List Int) : List Int := invTo xs xs.length xs.length

theorem invTo_length (xs : List Int) (n k : Nat) : (invTo xs n k).length = n := by
  induction k with
  | zero => simp [invTo]
  | succ k ih => rw [invTo, List.length_set, ih]
theorem inv_length (xs : List Int) : (inv xs).length = xs.length := invTo_length _ _ _
theorem invTo_below {xs : List Int} {n m : Nat} (hm : n ≤ m) (k : Nat) (hk : k ≤ n) : Below_ (invTo xs n k) m := by
  induction k with
  | zero => intro i hi; simp [invTo] at hi; exact ⟨0, by rw [gi_of (v := 0) (by simp [invTo, hi])]; rfl, by omega⟩
  | succ k ih =>
    intro i hi
    rw [invTo, List.length_set] at hi
    obtain ⟨y, h1, h2⟩ := ih (by omega) i hi
    by_cases e : (gi xs k).toNat = i
    · refine ⟨k, gi_of ?_, by omega⟩
      rw [invTo, e, List.getElem?_set_self hi]
    · refine ⟨y, ?_, h2⟩
      rw [← h1, invTo]
      apply gi_of
      rw [List.getElem?_set_ne e, gi_get hi]
theorem inv_below (xs : List Int) : Below_ (inv xs) xs.length := invTo_below (Nat.le_refl _) _ (Nat.le_refl _)

/-- First p, then q. -/
def cmpTo (p q : List Int) : Nat → List Int
  | 0 => []
  | k + 1 => cmpTo p q k ++ [gi q (gi p k).toNat]
def cmp (p q : List Int) : List Int := cmpTo p q p.length
theorem cmpTo_length (p q : List Int) (k : Nat) : (cmpTo p q k).length = k := by
  induction k with
  | zero => rfl
  | succ k ih => rw [cmpTo, List.length_append, ih]; rfl
theorem cmp_length (p q : List Int) : (cmp p q).length = p.length := cmpTo_length _ _ _

theorem made_nil (n : Nat) : List.replicate n (0 : Int) = ([] : List Int) ++ List.replicate (n - 0) 0 := rfl

set_option maxHeartbeats 800000 in
theorem l04Back_any (a : Option Addr) (n c : Nat) (xs : List Int) (w : World) (hx : RdI w a n c xs) (hn : n ≤ 1048576) (hb : Below_ xs n) :
    Calls Try.prog 88 #[.slice a n c] w (RetI w (inv xs)) := by
  have hmk := run_make_row' (P := Try.prog) 29 2 (.int .i64 0) 8 Try.underlying29 Try.info_i64 rfl .i64 .i64 n (by omega) (by omega)
  have Hl := Lib.hid hx.len
  have hb1 := hx.le
  have hb2 := hx.max
  have Hb := Lib.hid hb
  clear hb
  go_enter Try.func88, Try.ntmps88
  go_wp2
  clear hmk
  have H0 := own_made w 2 (Value.int .i64) 0 n (by omega)
  go_loopg [4] n (fun g i wr => ∃ k : Nat, k ≤ n ∧ g = n - k ∧ i = .int .i64 k ∧ OwnI wr w.heap.size (some ⟨w.heap.size, 0, none⟩) n n (invTo xs n k) ∧ Ext w wr)
  case atStart => exact ⟨0, Nat.zero_le _, rfl, rfl, H0, (Ext.refl w).alloc _⟩
  case round =>
    obtain ⟨k, hk, rfl, rfl, hO, hE⟩ := hrel
    clear H0
    by_cases hlt : k < n
    · obtain ⟨b, off, rfl, hcell⟩ := (hx.ext hE).gi hlt
      obtain ⟨y, hy, hyn⟩ := Hb.out k (by have := Hl.out; omega)
      rw [hy] at hcell
      obtain ⟨g, z, hg, hB, hoc, hof, Hz⟩ := hO.at_ hyn
      cases hg
      have hz : (k : Int) < (n : Int) := by omega
      have hz2 : (y : Int) < (n : Int) := by omega
      have hO' := hO.set (k := y) rfl (k : Int)
      have e : invTo xs n (k + 1) = (invTo xs n k).set y (k : Int) := by rw [invTo, hy]; rfl
      rw [← e] at hO'
      have hE' := hE.setCell (p := ⟨w.heap.size, y, none⟩) (Nat.le_refl _) (.int .i64 k)
      clear hO hE e hy
      go_wp2
      go_roundg (n - (k + 1))
      case measure => go_light; omega
      case rel => go_light; exact ⟨k + 1, by omega, rfl, by go_num, hO', hE'⟩
    · have hz : ¬ (k : Int) < (n : Int) := by omega
      obtain rfl : n = k := by omega
      go_wp2
      go_ret
      rw [show invTo xs n n = inv xs by rw [inv, ← Hl.out]] at hO
      exact ⟨_, _, _, rfl, hO, hE⟩



end Go.Proofs.Ytkapkieeafhaoaa
