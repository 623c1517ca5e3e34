/- Matrices as lists of rows. Conditions: none. -/
import Derived.Test.YtgggbicmmijlnaaFill
namespace Go.Proofs.Ytgggbicmmijlnaa
open Go.RowKit

/-- Rows and columns by a function of the place. -/
def mat (r c : Nat) (f : Nat → Nat → Int) : List (List Int) := (List.range r).map fun x => (List.range c).map fun y => f x y

theorem sq_mat (n : Nat) (f : Nat → Nat → Int) : sq n f = mat n n f := rfl

theorem mat_length (r c : Nat) (f : Nat → Nat → Int) : (mat r c f).length = r := by simp [mat]

theorem mat_row {r c x : Nat} {f : Nat → Nat → Int} (hx : x < r) : (mat r c f)[x]? = some ((List.range c).map fun y => f x y) := by simp [mat, hx]

theorem mat_congr {r c : Nat} {f g : Nat → Nat → Int} (h : ∀ x y, x < r → y < c → f x y = g x y) : mat r c f = mat r c g :=
  List.map_congr_left fun x hx => List.map_congr_left fun y hy => h x y (by simpa using hx) (by simpa using hy)

theorem range_map_set {c y : Nat} {f : Nat → Int} {v : Int} : ((List.range c).map f).set y v = (List.range c).map fun j => if j = y then v else f j := by
  apply List.ext_getElem?
  intro i
  rw [List.getElem?_set]
  by_cases hi : i < c
  · by_cases e : y = i
    · subst e; simp [hi]
    · have e' : ¬ i = y := fun h => e h.symm
      simp [hi, e, e']
  · by_cases e : y = i
    · subst e; simp [hi]
    · simp [hi, e]

theorem mat_set {r c x y : Nat} {f : Nat → Nat → Int} {v : Int} (hx : x < r) :
    (mat r c f).set x (((List.range c).map fun j => f x j).set y v) = mat r c fun i j => if i = x ∧ j = y then v else f i j := by
  rw [range_map_set]
  apply List.ext_getElem?
  intro i
  rw [List.getElem?_set]
  by_cases e : x = i
  · subst e
    simp [mat, hx]
  · have e' : ¬ i = x := fun h => e h.symm
    simp only [if_neg e, mat, e', false_and, if_false]
    by_cases hi : i < r
    · simp [hi, e']
    · simp [hi]

theorem mat_replicate (r c : Nat) (z : Int) : List.replicate r (List.replicate c z) = mat r c fun _ _ => z := by
  simp [mat, List.map_const']

set_option maxHeartbeats 800000 in
theorem l06Zero_any (r c : Nat) (w : World) (hr : r ≤ 100000) (hc : c ≤ 100000) :
    Calls Try.prog 75 #[.int .i64 r, .int .i64 c] w (RetR w (mat r c fun _ _ => 0)) := by
  have hmk := run_make_row' (P := Try.prog) 56 2 (.int .i64 0) 8 Try.underlying56 Try.info_i64 rfl .i64 .i64 c (by omega) (by omega)
  go_enter Try.func75, Try.ntmps75
  go_wp2
  have H0 := OwnR.empty w
  go_loopg [5, 6] r (fun gh s i wr => ∃ (k : Nat) (a : Option Addr) (d : Nat) (rs : List Row), k ≤ r ∧ gh = r - k ∧ i = .int .i64 k ∧ s = .slice a k d ∧ OwnR wr w.heap.size a k d (mat k c fun _ _ => 0) rs ∧ Ext w wr)
  case atStart => exact ⟨0, _, 0, [], Nat.zero_le _, rfl, rfl, rfl, H0, (Ext.refl w).alloc _⟩
  case round =>
    obtain ⟨k, a, d, rs, hk, rfl, rfl, rfl, hO, hE⟩ := hrel
    clear H0
    by_cases hlt : k < r
    · have hz : (k : Int) < (r : Int) := by omega
      have hO2 := hO.ext ((Ext.refl wr).alloc (.cells (madeCells #[.int .i64 0] c) 2))
      have hrow := (own_made wr 2 (Value.int .i64) 0 c (by omega)).base hE.size
      have hE2 := hE.alloc (.cells (madeCells #[.int .i64 0] c) 2)
      have hap : ∀ g, blk (some (⟨wr.heap.size, 0, none⟩ : Addr)) = some g → ¬ OwnR.fp a rs g := hO.young (Nat.le_refl _)
      have hsz := hE2.size
      clear hO hE
      go_wp2_with (at_builtin; refine app_S rfl _ _ rfl hO2 hsz hrow hap (by simp) (by omega) rfl rfl ?_; intro a' c' w3 hrows honly hmv)
      have hE3 := hE2.app hO2.top honly (Nat.le_refl _)
      have e : (mat k c fun _ _ => 0) ++ [List.replicate c 0] = mat (k + 1) c fun _ _ => 0 := by rw [← mat_replicate, ← mat_replicate, List.replicate_succ']
      rw [e] at hrows
      clear hO2 hE2 honly hmv hsz e hrow hap hmk
      go_wp2
      go_roundg (r - (k + 1))
      case measure => go_light; omega
      case rel => go_light; exact ⟨k + 1, a', c', _, by omega, rfl, by go_num, rfl, hrows, hE3⟩
    · have hz : ¬ (k : Int) < (r : Int) := by omega
      obtain rfl : k = r := by omega
      go_wp2
      go_ret
      exact ⟨_, _, _, _, rfl, hO, hE⟩

end Go.Proofs.Ytgggbicmmijlnaa
