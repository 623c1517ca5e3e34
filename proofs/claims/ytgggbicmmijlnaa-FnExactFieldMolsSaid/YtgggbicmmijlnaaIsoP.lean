/- Isotopes, in plain words. Conditions: none. -/
import Derived.Test.YtgggbicmmijlnaaSet2
import Derived.Test.YtgggbicmmijlnaaMat
import Derived.Test.YtgggbicmmijlnaaPm
import Derived.Test.YtgggbicmmijlnaaSqP
namespace Go.Proofs.Ytgggbicmmijlnaa

/-- A row of the square laid where the permutations say. -/
def isoIn (p : List (List Int)) (r c s : List Int) (M : List (List Int)) (k : Nat) : Nat → List (List Int)
  | 0 => M
  | y + 1 => set2 (isoIn p r c s M k y) (gi r k).toNat (gi c y).toNat (gi s (at2 p k y).toNat)
def isoTo (p : List (List Int)) (r c s : List Int) (n : Nat) : Nat → List (List Int)
  | 0 => mat n n fun _ _ => 0
  | k + 1 => isoIn p r c s (isoTo p r c s n k) k n

theorem mat_rect (n m : Nat) (f : Nat → Nat → Int) : Rect (mat n m f) n m := ⟨mat_length _ _ _, fun x hx => by rw [gr_of (mat_row hx)]; simp⟩

theorem isoIn_rect {p : List (List Int)} {r c s : List Int} {n k : Nat} {M : List (List Int)} (hM : Rect M n n) (hr : Below_ r n) (hrl : r.length = n) (hk : k < n) (y : Nat) : Rect (isoIn p r c s M k y) n n := by
  induction y with
  | zero => exact hM
  | succ y ih =>
    obtain ⟨v, hv, hlt⟩ := hr k (by omega)
    exact rect_set2 ih _ _ _ (by rw [hv]; exact hlt)
theorem isoTo_rect {p : List (List Int)} {r c s : List Int} {n : Nat} (hr : Below_ r n) (hrl : r.length = n) (k : Nat) (hk : k ≤ n) : Rect (isoTo p r c s n k) n n := by
  induction k with
  | zero => exact mat_rect _ _ _
  | succ k ih => exact isoIn_rect (ih (by omega)) hr hrl (by omega) _

/-- Rows of numbers below n, n of them, n long, n small. -/
def Rng (p : List (List Int)) (n : Nat) : Prop := Rect p n n ∧ n ≤ 10 ∧ ∀ x y, x < n → y < n → 0 ≤ at2 p x y ∧ at2 p x y < n
theorem SqOk.rng {p : List (List Int)} {n : Nat} (h : SqOk p) (hn : n = p.length) : Rng p n := by
  subst hn; exact ⟨h.2.2.1, h.2.1, fun x y hx hy => h.lt hx hy⟩

theorem isoIn_rng {p : List (List Int)} {r c s : List Int} {n k : Nat} {M : List (List Int)} (hM : Rng M n) (hr : Below_ r n) (hrl : r.length = n) (hc : Below_ c n) (hcl : c.length = n) (hs : Below_ s n) (hsl : s.length = n) (hp : Rng p n) (hk : k < n) (y : Nat) (hy : y ≤ n) : Rng (isoIn p r c s M k y) n := by
  induction y with
  | zero => exact hM
  | succ y ih =>
    have ih := ih (by omega)
    refine ⟨isoIn_rect hM.1 hr hrl hk _, hM.2.1, fun i j hi hj => ?_⟩
    obtain ⟨u, hu, hul⟩ := hr k (by omega)
    obtain ⟨v, hv, hvl⟩ := hc y (by omega)
    have h2 := hp.2.2 k y hk (by omega)
    obtain ⟨z, hz, hzl⟩ := hs (at2 p k y).toNat (by omega)
    rw [isoIn, at2_set2 ih.1 _ (by rw [hu]; exact hul) (by rw [hv]; exact hvl)]
    split
    · rw [hz]; omega
    · exact ih.2.2 i j hi hj
theorem isoTo_rng {p : List (List Int)} {r c s : List Int} {n : Nat} (hr : Below_ r n) (hrl : r.length = n) (hc : Below_ c n) (hcl : c.length = n) (hs : Below_ s n) (hsl : s.length = n) (hp : Rng p n) (k : Nat) (hk : k ≤ n) : Rng (isoTo p r c s n k) n := by
  induction k with
  | zero =>
    refine ⟨mat_rect _ _ _, hp.2.1, fun i j hi hj => ?_⟩
    rw [at2, isoTo, gr_of (mat_row hi), gi_of (v := 0) (by simp [hj])]
    omega
  | succ k ih => exact isoIn_rng (ih (by omega)) hr hrl hc hcl hs hsl hp (by omega) _ (Nat.le_refl _)

theorem tot_rect {M : List (List Int)} {n m : Nat} (h : Rect M n m) : tot M = n * m := by
  have key : ∀ k, k ≤ n → tot (M.take k) = k * m := by
    intro k
    induction k with
    | zero => intro _; simp [tot]
    | succ k ih =>
      intro hk
      rw [tot_take_succ (gr_get (p := M) (k := k) (by rw [h.1]; omega)), ih (by omega), h.2 k (by omega), Nat.succ_mul]
  have := key n (Nat.le_refl _)
  rwa [List.take_of_length_le (by rw [h.1]; exact Nat.le_refl _)] at this

end Go.Proofs.Ytgggbicmmijlnaa
