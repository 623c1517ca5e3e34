/- Finite fields of at most 64 elements, in plain words. Conditions: none. -/
import Derived.Test.YtgggbicmmijlnaaGet
namespace Go.Proofs.Ytgggbicmmijlnaa

/-! ### digits -/
def dig (n p i : Nat) : Nat := n / p ^ i % p
def digs (n p k : Nat) : List Int := (List.range k).map fun i => (dig n p i : Int)
theorem digs_len (n p k : Nat) : (digs n p k).length = k := by simp [digs]
theorem digs_succ (n p k : Nat) : digs n p (k + 1) = digs n p k ++ [(dig n p k : Int)] := by rw [digs, List.range_succ, List.map_append]; rfl
theorem dig_next (n p i : Nat) : n / p ^ i / p = n / p ^ (i + 1) := by rw [Nat.div_div_eq_div_mul, Nat.pow_succ]
theorem gi_digs {n p k i : Nat} (h : i < k) : gi (digs n p k) i = (dig n p i : Int) := gi_of (by simp [digs, h])
/-- All numbers lie in 0 .. p-1. -/
def Bnd (z : List Int) (p : Int) : Prop := ∀ i, 0 ≤ gi z i ∧ gi z i < p
theorem gi_over {z : List Int} {i : Nat} (h : z.length ≤ i) : gi z i = 0 := by simp [gi, List.getD_eq_getElem?_getD, List.getElem?_eq_none h]
theorem bnd_of {z : List Int} {p : Int} (hp : 0 < p) (h : ∀ i, i < z.length → 0 ≤ gi z i ∧ gi z i < p) : Bnd z p := fun i => by
  by_cases e : i < z.length
  · exact h i e
  · rw [gi_over (by omega)]; exact ⟨Int.le_refl _, hp⟩
theorem digs_bnd {n p k : Nat} (hp : 0 < p) : Bnd (digs n p k) p := bnd_of (by omega) (fun i hi => by
  rw [digs_len] at hi
  rw [gi_digs hi, dig]
  have := Nat.mod_lt (n / p ^ i) hp
  omega)
theorem gi_put_self {o : List Int} {s : Nat} {v : Int} (h : s < o.length) : gi (o.set s v) s = v := gi_of (by rw [List.getElem?_set_self h])
theorem gi_put_ne {o : List Int} {s i : Nat} {v : Int} (h : s ≠ i) : gi (o.set s v) i = gi o i := by
  rw [gi, gi, List.getD_eq_getElem?_getD, List.getD_eq_getElem?_getD, List.getElem?_set_ne h]
theorem Bnd.set {z : List Int} {p v : Int} {i : Nat} (h : Bnd z p) (hv : 0 ≤ v ∧ v < p) : Bnd (z.set i v) p := fun j => by
  by_cases e : i = j
  · subst e
    by_cases hl : i < z.length
    · rw [gi_put_self hl]; exact hv
    · rw [List.set_eq_of_length_le (by omega)]; exact h i
  · rw [gi_put_ne e]; exact h j
theorem gi_left {a b : List Int} {i : Nat} (h : i < a.length) : gi (a ++ b) i = gi a i := by
  rw [gi, gi, List.getD_eq_getElem?_getD, List.getD_eq_getElem?_getD, List.getElem?_append_left h]
theorem gi_last {a : List Int} {v : Int} : gi (a ++ [v]) a.length = v := gi_of (by simp)
theorem Bnd.snoc {z : List Int} {p v : Int} (h : Bnd z p) (hv : 0 ≤ v ∧ v < p) : Bnd (z ++ [v]) p := bnd_of (by omega) (fun i hi => by
  by_cases e : i < z.length
  · rw [gi_left e]; exact h i
  · rw [List.length_append, List.length_singleton] at hi
    obtain rfl : i = z.length := by omega
    rw [gi_last]; exact hv)
theorem Bnd.take {z : List Int} {p : Int} (h : Bnd z p) (k : Nat) : Bnd (z.take k) p := bnd_of (by have := h 0; omega) (fun i hi => by
  rw [List.length_take] at hi
  rw [gi_take (by omega)]; exact h i)

/-- The number with some digits, the lowest one first. -/
def num (p : Int) : List Int → Int
  | [] => 0
  | x :: l => num p l * p + x
theorem num_drop {p : Int} {z : List Int} {k : Nat} (h : k < z.length) : num p (z.drop k) = num p (z.drop (k + 1)) * p + gi z k := by
  rw [List.drop_eq_getElem_cons h, num, gi_of (List.getElem?_eq_getElem h)]
theorem num_range {p : Nat} {z : List Int} (h : Bnd z p) (k : Nat) : 0 ≤ num p (z.drop (z.length - k)) ∧ num p (z.drop (z.length - k)) < (p ^ k : Nat) := by
  induction k with
  | zero => rw [Nat.sub_zero, List.drop_length]; exact ⟨Int.le_refl _, by simp [num]⟩
  | succ k ih =>
    by_cases e : k < z.length
    · rw [show z.length - (k + 1) = z.length - k - 1 by omega, num_drop (by omega), show z.length - k - 1 + 1 = z.length - k by omega]
      have hb := h (z.length - k - 1)
      obtain ⟨a, ha⟩ := Int.eq_ofNat_of_zero_le ih.1
      rw [ha] at ih ⊢
      obtain ⟨d, hd⟩ := Int.eq_ofNat_of_zero_le hb.1
      rw [hd] at hb ⊢
      have h1 : a + 1 ≤ p ^ k := by omega
      have h2 : d < p := by omega
      have h3 := Nat.mul_le_mul_right p h1
      rw [Nat.succ_mul] at h3
      have h4 : a * p + d < p ^ (k + 1) := by rw [Nat.pow_succ]; omega
      exact ⟨by exact_mod_cast Nat.zero_le (a * p + d), by exact_mod_cast h4⟩
    · have hp : 0 < p := by have := h 0; omega
      have h5 : p ^ k ≤ p ^ (k + 1) := Nat.pow_le_pow_right hp (by omega)
      rw [show z.length - (k + 1) = z.length - k by omega]
      exact ⟨ih.1, by have := ih.2; omega⟩

/-! ### sums and products -/
def addTo (xs ys : List Int) (p : Int) : Nat → List Int
  | 0 => xs
  | i + 1 => (addTo xs ys p i).set i ((gi (addTo xs ys p i) i + gi ys i) % p)
theorem addTo_len (xs ys : List Int) (p : Int) (i : Nat) : (addTo xs ys p i).length = xs.length := by
  induction i with
  | zero => rfl
  | succ i ih => rw [addTo, List.length_set, ih]
theorem addTo_bnd {xs ys : List Int} {p : Int} (hx : Bnd xs p) (i : Nat) : Bnd (addTo xs ys p i) p := by
  have hp : 0 < p := by have := hx 0; omega
  induction i with
  | zero => exact hx
  | succ i ih => exact ih.set ⟨Int.emod_nonneg _ (by omega), Int.emod_lt_of_pos _ hp⟩

def mulIn (xs ys : List Int) (p : Int) (i : Nat) : Nat → List Int → List Int
  | 0, z => z
  | j + 1, z => (mulIn xs ys p i j z).set (i + j) ((gi (mulIn xs ys p i j z) (i + j) + gi xs i * gi ys j) % p)
def mulTo (xs ys : List Int) (p : Int) (L : Nat) : Nat → List Int
  | 0 => List.replicate L 0
  | i + 1 => mulIn xs ys p i ys.length (mulTo xs ys p L i)
theorem mulIn_len (xs ys : List Int) (p : Int) (i j : Nat) (z : List Int) : (mulIn xs ys p i j z).length = z.length := by
  induction j with
  | zero => rfl
  | succ j ih => rw [mulIn, List.length_set, ih]
theorem mulTo_len (xs ys : List Int) (p : Int) (L i : Nat) : (mulTo xs ys p L i).length = L := by
  induction i with
  | zero => simp [mulTo]
  | succ i ih => rw [mulTo, mulIn_len, ih]
theorem mulIn_bnd {xs ys z : List Int} {p : Int} (hz : Bnd z p) (i j : Nat) : Bnd (mulIn xs ys p i j z) p := by
  have hp : 0 < p := by have := hz 0; omega
  induction j with
  | zero => exact hz
  | succ j ih => exact ih.set ⟨Int.emod_nonneg _ (by omega), Int.emod_lt_of_pos _ hp⟩
theorem mulTo_bnd {xs ys : List Int} {p : Int} (hp : 0 < p) (L i : Nat) : Bnd (mulTo xs ys p L i) p := by
  induction i with
  | zero => exact bnd_of hp (fun i hi => by
      rw [mulTo_len] at hi
      rw [mulTo]
      rw [gi_of (v := 0) (by simp [hi])]; exact ⟨Int.le_refl _, hp⟩)
  | succ i ih => exact mulIn_bnd ih i _

/-! ### remainders -/
def restIn (b : List Int) (p f : Int) (off : Nat) : Nat → List Int → List Int
  | 0, z => z
  | j + 1, z => (restIn b p f off j z).set (off + j) ((gi (restIn b p f off j z) (off + j) - f * gi b j) % p)
def restTo (b : List Int) (p : Int) (deg : Nat) : Nat → List Int → List Int
  | 0, z => z
  | m + 1, z => restTo b p deg m (restIn b p (gi z (deg + m)) m (deg + 1) z)
def rest (a b : List Int) (p : Int) : List Int := (restTo b p (b.length - 1) (a.length - (b.length - 1)) a).take (b.length - 1)
theorem restIn_len (b : List Int) (p f : Int) (off j : Nat) (z : List Int) : (restIn b p f off j z).length = z.length := by
  induction j with
  | zero => rfl
  | succ j ih => rw [restIn, List.length_set, ih]
theorem restIn_bnd {b z : List Int} {p f : Int} (hz : Bnd z p) (off j : Nat) : Bnd (restIn b p f off j z) p := by
  have hp : 0 < p := by have := hz 0; omega
  induction j with
  | zero => exact hz
  | succ j ih => exact ih.set ⟨Int.emod_nonneg _ (by omega), Int.emod_lt_of_pos _ hp⟩
theorem restTo_len (b : List Int) (p : Int) (deg m : Nat) : ∀ z : List Int, (restTo b p deg m z).length = z.length := by
  induction m with
  | zero => exact fun _ => rfl
  | succ m ih => intro z; rw [restTo, ih, restIn_len]
theorem restTo_bnd {b : List Int} {p : Int} (deg m : Nat) : ∀ z : List Int, Bnd z p → Bnd (restTo b p deg m z) p := by
  induction m with
  | zero => exact fun _ h => h
  | succ m ih => intro z h; rw [restTo]; exact ih _ (restIn_bnd h _ _)
theorem rest_bnd {a b : List Int} {p : Int} (h : Bnd a p) : Bnd (rest a b p) p := (restTo_bnd _ _ _ h).take _
theorem rest_len {a b : List Int} {p : Int} (h : b.length - 1 ≤ a.length) : (rest a b p).length = b.length - 1 := by
  rw [rest, List.length_take, restTo_len]; omega
/-- The two ways to step. -/
theorem step_sub {v f c p r : Int} (hp : 0 < p) (hr : (v - f * c).tmod p = r) : -p < r ∧ r < p ∧ (r + p) % p = (v - f * c) % p := by
  have e := Int.tmod_add_mul_tdiv (v - f * c) p
  rw [hr] at e
  refine ⟨by rw [← hr]; exact Int.lt_tmod_of_pos _ hp, by rw [← hr]; exact Int.tmod_lt_of_pos _ hp, ?_⟩
  rw [Int.add_emod_right, ← e, Int.add_mul_emod_self_left]
theorem step_add {v f c p : Int} : (v + (p - f) * c) % p = (v - f * c) % p := by
  have : v + (p - f) * c = (v - f * c) + p * c := by rw [Int.sub_mul]; omega
  rw [this, Int.add_mul_emod_self_left]

/-! ### irreducible -/
def irrAt (poly : List Int) (p d n : Nat) : Bool := (rest poly (digs n p d ++ [1]) p).any fun x => x != 0
def irr (poly : List Int) (p : Nat) : Bool := (List.range ((poly.length - 1) / 2)).all fun d => (List.range (p ^ (d + 1))).all fun n => irrAt poly p (d + 1) n
theorem irr_yes {poly : List Int} {p : Nat} (h : ∀ d n, 1 ≤ d → 2 * d ≤ poly.length - 1 → n < p ^ d → irrAt poly p d n = true) : irr poly p = true := by
  rw [irr, List.all_eq_true]
  intro d hd
  rw [List.mem_range] at hd
  rw [List.all_eq_true]
  intro n hn
  rw [List.mem_range] at hn
  exact h (d + 1) n (by omega) (by omega) hn
theorem irr_no {poly : List Int} {p d n : Nat} (h1 : 1 ≤ d) (h2 : 2 * d ≤ poly.length - 1) (h3 : n < p ^ d) (h : irrAt poly p d n = false) : irr poly p = false := by
  apply Classical.byContradiction
  intro hn
  have ht : irr poly p = true := by simpa using hn
  rw [irr, List.all_eq_true] at ht
  have h4 := ht (d - 1) (List.mem_range.2 (by omega))
  rw [List.all_eq_true] at h4
  have h5 := h4 n (List.mem_range.2 (by rw [show d - 1 + 1 = d by omega]; exact h3))
  rw [show d - 1 + 1 = d by omega, h] at h5
  cases h5
/-- The number is 0 just where all digits are. -/
theorem num_zero {p : Nat} {z : List Int} (h : ∀ x, x ∈ z → 0 ≤ x) (hp : 0 < p) : (num p z == 0) = !(z.any fun x => x != 0) ∧ 0 ≤ num p z := by
  induction z with
  | nil => exact ⟨rfl, Int.le_refl _⟩
  | cons x l ih =>
    obtain ⟨i1, i2⟩ := ih (fun x hx => h x (List.mem_cons_of_mem _ hx))
    have hx := h x (List.mem_cons_self ..)
    have h1 : 0 ≤ num p l * p := Int.mul_nonneg i2 (by omega)
    refine ⟨?_, by rw [num]; omega⟩
    rw [num, List.any_cons]
    by_cases e : x = 0
    · subst e
      have : ((0 : Int) != 0) = false := rfl
      rw [Int.add_zero, this, Bool.false_or, ← i1]
      by_cases e2 : num p l = 0
      · rw [e2]; simp
      · have h2 : num p l * p ≠ 0 := Int.mul_ne_zero e2 (by omega)
        rw [beq_eq_false_iff_ne.2 h2, beq_eq_false_iff_ne.2 e2]
    · have h2 : (x != 0) = true := by simp [e]
      rw [h2, Bool.true_or, beq_eq_false_iff_ne.2 (by omega)]
      rfl
theorem bnd_mem {z : List Int} {p : Int} (h : Bnd z p) : ∀ x, x ∈ z → 0 ≤ x := fun x hx => by
  obtain ⟨k, hk, rfl⟩ := mem_gi hx
  exact (h k).1

/-! ### prime powers -/
def facI : Nat → Nat → Nat → List Nat → List Nat × Nat
  | 0, _, n, acc => (acc, n)
  | m + 1, p, n, acc => if n % p = 0 then facI m p (n / p) (acc ++ [p]) else (acc, n)
def facO : Nat → Nat → Nat → List Nat → List Nat
  | 0, _, n, acc => if 1 < n then acc ++ [n] else acc
  | m + 1, p, n, acc => if p * p ≤ n then facO m (p + 1) (facI n p n acc).2 (facI n p n acc).1 else if 1 < n then acc ++ [n] else acc
def fac (n : Nat) : List Nat := facO 1000 2 n []
def pp (n : Nat) : Nat × Nat := match fac n with
  | [] => (0, 0)
  | p :: r => if r.all (fun x => x == p) then (p, r.length + 1) else (0, 0)
def leastD (q : Nat) : Nat := ((List.range (q + 1)).find? fun d => 2 ≤ d && q % d == 0).getD 0
def spR : Nat → Nat → Nat → Nat → Nat × Nat
  | 0, p, _, k => (p, k)
  | m + 1, p, n, k => if n ≤ 1 then (p, k) else if n % p = 0 then spR m p (n / p) (k + 1) else (0, 0)
def sp (q : Nat) : Nat × Nat := if 2 ≤ q ∧ q ≤ 64 then spR q (leastD q) q 0 else (0, 0)
def leastN (p k : Nat) : Nat := ((List.range 64).find? fun n => irr (digs n p k ++ [1]) p).getD 64
def fpoly (p k : Nat) : List Int := digs (leastN p k) p k ++ [1]
def prd (a b p k L : Nat) : Int := num p (rest (mulTo (digs a p k) (digs b p k) p L k) (fpoly p k) p)

set_option maxRecDepth 100000 in
theorem pp_all : ∀ q, q < 65 → ((pp q).1 = 0 ∧ (pp q).2 = 0) ∨ (2 ≤ (pp q).1 ∧ 1 ≤ (pp q).2 ∧ (pp q).1 ^ (pp q).2 = q ∧ leastN (pp q).1 (pp q).2 < 64) := by decide +kernel
theorem sp_all : ∀ q, q < 65 → sp q = pp q := by decide +kernel
set_option maxRecDepth 100000 in
theorem prd_all : ∀ q, q < 11 → ∀ a, a < q → ∀ b, b < q → 2 ≤ (pp q).1 → prd a b (pp q).1 (pp q).2 (2 * (pp q).2) = prd a b (pp q).1 (pp q).2 (2 * (pp q).2 - 1) ∧ 0 ≤ prd a b (pp q).1 (pp q).2 (2 * (pp q).2) ∧ prd a b (pp q).1 (pp q).2 (2 * (pp q).2) < q := by decide +kernel
theorem leastN_spec {p k : Nat} (h : leastN p k < 64) : irr (digs (leastN p k) p k ++ [1]) p = true ∧ ∀ m, m < leastN p k → irr (digs m p k ++ [1]) p = false := by
  cases e : (List.range 64).find? (fun n => irr (digs n p k ++ [1]) p) with
  | none => rw [leastN, e] at h; exact absurd h (by decide)
  | some n =>
    have hn : leastN p k = n := by rw [leastN, e]; rfl
    rw [hn]
    rw [List.find?_eq_some_iff_getElem] at e
    obtain ⟨h1, i, hi, h2, h3⟩ := e
    rw [List.getElem_range] at h2
    subst h2
    refine ⟨h1, fun m hm => ?_⟩
    have := h3 m hm
    rw [List.getElem_range] at this
    simpa using this
end Go.Proofs.Ytgggbicmmijlnaa
