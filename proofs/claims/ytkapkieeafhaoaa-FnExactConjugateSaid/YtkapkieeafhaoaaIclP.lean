/- The intercalates of a square, in plain words. Conditions: none. -/
import Derived.Test.YtkapkieeafhaoaaUnitP
import Derived.Test.YtkapkieeafhaoaaSz
namespace Go.Proofs.Ytkapkieeafhaoaa
open Go.RowKit

def icOk (p : List (List Int)) (r s c d : Nat) : Bool := (at2 p r c == at2 p s d) && (at2 p r d == at2 p s c)
def ic1 (p : List (List Int)) (r s c d : Nat) : List (List Int) := if icOk p r s c d then [[(r : Int), (s : Int), (c : Int), (d : Int)]] else []
/-- columns c+1 .. d-1 -/
def icD (p : List (List Int)) (r s c d : Nat) : List (List Int) := (List.range' (c + 1) (d - (c + 1))).flatMap fun y => ic1 p r s c y
def icC (p : List (List Int)) (n r s c : Nat) : List (List Int) := (List.range c).flatMap fun x => icD p r s x n
def icS (p : List (List Int)) (n r s : Nat) : List (List Int) := (List.range' (r + 1) (s - (r + 1))).flatMap fun y => icC p n r y n
def icR (p : List (List Int)) (n r : Nat) : List (List Int) := (List.range r).flatMap fun x => icS p n x n

theorem icD_start (p : List (List Int)) (r s c : Nat) : icD p r s c (c + 1) = [] := by simp [icD]
theorem icS_start (p : List (List Int)) (n r : Nat) : icS p n r (r + 1) = [] := by simp [icS]
theorem icD_succ (p : List (List Int)) (r s c d : Nat) (h : c + 1 ≤ d) : icD p r s c (d + 1) = icD p r s c d ++ ic1 p r s c d := by
  rw [icD, show d + 1 - (c + 1) = (d - (c + 1)) + 1 by omega, List.range'_concat, List.flatMap_append]
  simp [icD, show c + 1 + (d - (c + 1)) = d by omega]
theorem icC_succ (p : List (List Int)) (n r s c : Nat) : icC p n r s (c + 1) = icC p n r s c ++ icD p r s c n := by
  rw [icC, List.range_succ, List.flatMap_append]; simp [icC]
theorem icS_succ (p : List (List Int)) (n r s : Nat) (h : r + 1 ≤ s) : icS p n r (s + 1) = icS p n r s ++ icC p n r s n := by
  rw [icS, show s + 1 - (r + 1) = (s - (r + 1)) + 1 by omega, List.range'_concat, List.flatMap_append]
  simp [icS, show r + 1 + (s - (r + 1)) = s by omega]
theorem icR_succ (p : List (List Int)) (n r : Nat) : icR p n (r + 1) = icR p n r ++ icS p n r n := by
  rw [icR, List.range_succ, List.flatMap_append]; simp [icR]

/-- An upper bound on their number. -/
theorem ic1_len (p : List (List Int)) (r s c d : Nat) : (ic1 p r s c d).length ≤ 1 := by rw [ic1]; split <;> simp
theorem flat_len {α β : Type} (l : List α) (f : α → List β) (m : Nat) (h : ∀ x, (f x).length ≤ m) : (l.flatMap f).length ≤ l.length * m := by
  induction l with
  | nil => simp
  | cons x r ih =>
    rw [List.flatMap_cons, List.length_append, List.length_cons, Nat.succ_mul]
    have := h x; omega
theorem icD_len (p : List (List Int)) (r s c d : Nat) : (icD p r s c d).length ≤ d := by
  have := flat_len (List.range' (c + 1) (d - (c + 1))) (fun y => ic1 p r s c y) 1 (fun y => ic1_len _ _ _ _ _)
  rw [List.length_range'] at this; rw [icD]; omega
theorem icC_len (p : List (List Int)) (n r s c : Nat) : (icC p n r s c).length ≤ c * n := by
  have := flat_len (List.range c) (fun x => icD p r s x n) n (fun x => icD_len _ _ _ _ _)
  rwa [List.length_range] at this
theorem icS_len (p : List (List Int)) (n r s : Nat) : (icS p n r s).length ≤ s * (n * n) := by
  have := flat_len (List.range' (r + 1) (s - (r + 1))) (fun y => icC p n r y n) (n * n) (fun x => icC_len _ _ _ _ _)
  rw [List.length_range'] at this
  refine Nat.le_trans this (Nat.mul_le_mul_right _ (by omega))
theorem icR_len (p : List (List Int)) (n r : Nat) : (icR p n r).length ≤ r * (n * (n * n)) := by
  have := flat_len (List.range r) (fun x => icS p n x n) (n * (n * n)) (fun x => icS_len _ _ _ _)
  rwa [List.length_range] at this

theorem ten3 {a b c : Nat} (ha : a ≤ 10) (hb : b ≤ 10) (hc : c ≤ 10) : a * (b * c) ≤ 1000 := by
  have h1 := Nat.mul_le_mul hb hc
  have := Nat.mul_le_mul ha h1; omega
theorem ten4 {a b c d : Nat} (ha : a ≤ 10) (hb : b ≤ 10) (hc : c ≤ 10) (hd : d ≤ 10) : a * (b * (c * d)) ≤ 10000 := by
  have h1 := ten3 hb hc hd
  have := Nat.mul_le_mul ha h1; omega
theorem ten2 {a b : Nat} (ha : a ≤ 10) (hb : b ≤ 10) : a * b ≤ 100 := Nat.mul_le_mul ha hb

/-- All that has been found ahead of (r, s, c, d). -/
def icTo (p : List (List Int)) (n r s c d : Nat) : List (List Int) := ((icR p n r ++ icS p n r s) ++ icC p n r s c) ++ icD p r s c d
theorem icTo_len {p : List (List Int)} {n r s c d : Nat} (hn : n ≤ 10) (hr : r ≤ n) (hs : s ≤ n) (hc : c ≤ n) (hd : d ≤ n) : (icTo p n r s c d).length ≤ 100000 := by
  have h1 := icR_len p n r
  have h2 := icS_len p n r s
  have h3 := icC_len p n r s c
  have h4 := icD_len p r s c d
  have g1 := ten4 (a := r) (b := n) (c := n) (d := n) (by omega) hn hn hn
  have g2 := ten3 (a := s) (b := n) (c := n) (by omega) hn hn
  have g3 := ten2 (a := c) (b := n) (by omega) hn
  rw [icTo, List.length_append, List.length_append, List.length_append]
  omega

theorem icR_tot (p : List (List Int)) (n r : Nat) (hn : n ≤ 10) (hr : r ≤ n) : tot (icR p n r) ≤ 1048576 := by
  have hl := icR_len p n r
  have hl2 := ten4 (a := r) (b := n) (c := n) (d := n) (by omega) hn hn hn
  have key : ∀ l : List (List Int), (∀ x, x ∈ l → x.length = 4) → tot l = 4 * l.length := by
    intro l
    induction l with
    | nil => intro _; rfl
    | cons x t ih => intro h; rw [tot, ih (fun y hy => h y (List.mem_cons_of_mem _ hy)), h x (by simp), List.length_cons]; omega
  rw [key _ (fun x hx => ?_)]
  · omega
  · simp only [icR, icS, icC, icD, List.mem_flatMap] at hx
    obtain ⟨_, _, _, _, _, _, _, _, hx⟩ := hx
    rw [ic1] at hx
    split at hx
    · simp at hx; subst hx; rfl
    · simp at hx

noncomputable def iclM (p : List (List Int)) : List (List Int) := if pb (SqOk p) then icR p p.length p.length else []
noncomputable def iclC (p : List (List Int)) : Int := if pb (SqOk p) then 0 else 1
theorem iclM_tot (p : List (List Int)) : tot (iclM p) ≤ 1048576 := by
  rw [iclM]
  split
  · rename_i h
    exact icR_tot _ _ _ (pb_iff.1 h).2.1 (Nat.le_refl _)
  · simp [tot]
end Go.Proofs.Ytkapkieeafhaoaa
