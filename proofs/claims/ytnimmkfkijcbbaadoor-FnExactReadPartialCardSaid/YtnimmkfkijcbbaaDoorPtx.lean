/- The text of a partial square, in plain words. Conditions: none. -/
import Derived.Test.YtnimmkfkijcbbaaDoorRds
import Derived.Test.YtnimmkfkijcbbaaDoorDig
import Derived.Test.YtnimmkfkijcbbaaDoorPartP
import Derived.Lib.Replace
import Derived.Lib.IndexMore
import Derived.Lib.ItoaNum
namespace Go.Proofs.YtnimmkfkijcbbaaDoor

/-- The byte of a cell: a dot where it is empty. -/
def pcb (v : Int) : UInt8 := if v < 0 then 46 else dgB v
def rowP (xs : List Int) : List UInt8 := xs.map pcb
def rowsP (p : List (List Int)) : List UInt8 := Lib.join (p.map rowP) [47]
/-- As the reference writes it. -/
def ptTo (p : List (List Int)) : Nat → List UInt8
  | 0 => []
  | x + 1 => ptTo p x ++ (if 0 < x then [47] else []) ++ rowP (gr p x)
theorem rowP_len (xs : List Int) : (rowP xs).length = xs.length := by simp [rowP]
theorem rowP_take {xs : List Int} {k : Nat} (h : k < xs.length) : rowP (xs.take (k + 1)) = rowP (xs.take k) ++ [pcb (gi xs k)] := by
  rw [List.take_add_one, gi_get h]; simp [rowP]
theorem ptTo_eq (p : List (List Int)) : ∀ k, k ≤ p.length → ptTo p k = rowsP (p.take k) := by
  intro k
  induction k with
  | zero => intro _; simp [ptTo, rowsP, Lib.join_nil]
  | succ k ih =>
    intro hk
    have e : p.take (k + 1) = p.take k ++ [gr p k] := by rw [List.take_add_one, gr_get (by omega)]; rfl
    rw [ptTo, ih (by omega), e, rowsP, rowsP, List.map_append, List.map_singleton]
    by_cases h0 : k = 0
    · subst h0; simp [Lib.join_nil, Lib.join_one]
    · have hne : (p.take k).map rowP ≠ [] := by
        intro h
        have h9 : ((p.take k).map rowP).length = 0 := by rw [h]; rfl
        rw [List.length_map, List.length_take] at h9
        omega
      rw [if_pos (by omega), join_snoc _ _ _ hne]
theorem ptTo_len {p : List (List Int)} {n : Nat} (hr : Rect p n n) (hn : n ≤ 10) : ∀ k, k ≤ n → (ptTo p k).length ≤ 11 * k := by
  intro k
  induction k with
  | zero => intro _; simp [ptTo]
  | succ k ih =>
    intro hk
    have h1 := ih (by omega)
    have h2 := hr.2 k (by omega)
    rw [ptTo, List.length_append, List.length_append, rowP_len, h2]
    have h3 : (if 0 < k then ([47] : List UInt8) else []).length ≤ 1 := by split <;> simp
    omega
open Classical in
noncomputable def pqTx (p : List (List Int)) : ByteArray := if POk p then bs (rowsP p) else bs []
theorem pqTx_yes {p : List (List Int)} (h : POk p) : pqTx p = bs (rowsP p) := if_pos h
theorem pqTx_no {p : List (List Int)} (h : ¬ POk p) : pqTx p = bs [] := if_neg h

/-- '-1' becomes a dot. -/
def un : List UInt8 → List UInt8
  | 45 :: 49 :: r => 46 :: un r
  | b :: r => b :: un r
  | [] => []
theorem un_hit (r : List UInt8) : un (45 :: 49 :: r) = 46 :: un r := by rw [un]
theorem un_ne {b : UInt8} (r : List UInt8) (h : b ≠ 45) : un (b :: r) = b :: un r := by
  rw [un]
  intro r' e _
  exact h e
theorem un_ne2 {b : UInt8} (r : List UInt8) (h : ¬ ∃ r', b :: r = 45 :: 49 :: r') : un (b :: r) = b :: un r := by
  rw [un]
  intro r' e1 e2
  exact h ⟨r', by rw [e1, e2]⟩
theorem replace_un : ∀ (n : Nat) (s : List UInt8), s.length ≤ n → Lib.replaceK [45, 49] [46] (Lib.count s [45, 49]) s = un s := by
  intro n
  induction n with
  | zero =>
    intro s hs
    have : s = [] := List.eq_nil_of_length_eq_zero (by omega)
    subst this; rfl
  | succ n ih =>
    intro s hs
    cases s with
    | nil => rfl
    | cons b r =>
      by_cases hp : ∃ r', b :: r = 45 :: 49 :: r'
      · obtain ⟨r', e⟩ := hp
        rw [e] at hs ⊢
        have hi : Lib.index (45 :: 49 :: r') [45, 49] = (0 : Nat) := by simp [Lib.index]
        rw [Lib.count_hit (by simp) hi, Nat.add_comm, Lib.replaceK_hit _ _ _ _ _ hi, un_hit]
        simp only [List.length_cons] at hs
        have := ih r' (by omega)
        simpa using this
      · rw [un_ne2 r hp]
        have hr := ih r (by simp at hs; omega)
        have hpre : ([45, 49] : List UInt8).isPrefixOf (b :: r) = false := by
          cases hq : ([45, 49] : List UInt8).isPrefixOf (b :: r) with
          | false => rfl
          | true =>
            exfalso
            obtain ⟨t, ht⟩ := List.isPrefixOf_iff_prefix.1 hq
            exact hp ⟨t, ht.symm⟩
        have hge := Lib.index_ge r [45, 49]
        by_cases hm : Lib.index r [45, 49] = -1
        · have hm2 : Lib.index (b :: r) [45, 49] = -1 := by rw [Lib.index, hpre, hm]; rfl
          rw [Lib.count_miss hm] at hr
          rw [Lib.count_miss hm2, Lib.replaceK, ← hr, Lib.replaceK]
        · obtain ⟨i, hi⟩ := Int.eq_ofNat_of_zero_le (show 0 ≤ Lib.index r [45, 49] by omega)
          have e1 : ¬ ((i : Int) == -1) = true := fun e => by have := beq_iff_eq.1 e; omega
          have hi2 : Lib.index (b :: r) [45, 49] = (i + 1 : Nat) := by
            rw [Lib.index, hpre, hi]
            simp only [Bool.false_eq_true, if_false, if_neg e1]; omega
          rw [Lib.count_hit (by simp) hi, Nat.add_comm, Lib.replaceK_hit _ _ _ _ _ hi] at hr
          rw [Lib.count_hit (by simp) hi2, Nat.add_comm, Lib.replaceK_hit _ _ _ _ _ hi2, ← hr]
          have e3 : i + 1 + ([45, 49] : List UInt8).length = (i + ([45, 49] : List UInt8).length) + 1 := by simp only [List.length_cons, List.length_nil]
          rw [e3, List.drop_succ_cons, List.take_succ_cons]; rfl
theorem replaceAll_un (s : List UInt8) : Lib.replaceAll s [45, 49] [46] = un s := by
  have h1 : (([45, 49] : List UInt8) == [46]) = false := by decide
  rw [Lib.replaceAll, Lib.replace, h1]
  simp only [Bool.false_eq_true, if_false]
  rw [Lib.replaceNum, if_pos (.inl (by decide))]
  exact replace_un _ s (Nat.le_refl _)

/-- What impl writes for a cell. -/
def dcB (v : Int) : List UInt8 := if v < 0 then [45, 49] else [dgB v]
theorem dcB_len (v : Int) : (dcB v).length ≤ 2 := by unfold dcB; split <;> simp
theorem dgB_ne {v : Int} (h : 0 ≤ v) (h2 : v ≤ 9) : dgB v ≠ 45 := by
  have : v = 0 ∨ v = 1 ∨ v = 2 ∨ v = 3 ∨ v = 4 ∨ v = 5 ∨ v = 6 ∨ v = 7 ∨ v = 8 ∨ v = 9 := by omega
  rcases this with rfl | rfl | rfl | rfl | rfl | rfl | rfl | rfl | rfl | rfl <;> decide
theorem un_row {xs : List Int} (h : ∀ v, v ∈ xs → v ≤ 9) (r : List UInt8) : un (txB dcB xs ++ r) = rowP xs ++ un r := by
  induction xs with
  | nil => rfl
  | cons v xs ih =>
    have h1 := h v (by simp)
    have h2 := ih (fun y hy => h y (by simp [hy]))
    rw [txB, List.map_cons, List.flatten_cons, ← txB, List.append_assoc, rowP, List.map_cons, ← rowP]
    by_cases hv : v < 0
    · rw [dcB, if_pos hv, pcb, if_pos hv]
      show un (45 :: 49 :: (txB dcB xs ++ r)) = _
      rw [un_hit, h2]; rfl
    · rw [dcB, if_neg hv, pcb, if_neg hv]
      show un (dgB v :: (txB dcB xs ++ r)) = _
      rw [un_ne _ (dgB_ne (by omega) h1), h2]; rfl
theorem un_tail (p : List (List Int)) (h : ∀ xs, xs ∈ p → ∀ v, v ∈ xs → v ≤ 9) : un (Lib.joinTail [47] (p.map (txB dcB))) = Lib.joinTail [47] (p.map rowP) := by
  induction p with
  | nil => rfl
  | cons xs p ih =>
    have h2 := ih (fun y hy => h y (by simp [hy]))
    simp only [Lib.joinTail, List.map_cons, List.flatten_cons] at h2 ⊢
    show un (47 :: (txB dcB xs ++ _)) = _
    rw [un_ne _ (by decide), un_row (h xs (by simp)), h2]; rfl
theorem un_rows {p : List (List Int)} (h : ∀ xs, xs ∈ p → ∀ v, v ∈ xs → v ≤ 9) : un (txRows dcB p) = rowsP p := by
  cases p with
  | nil => rfl
  | cons xs p =>
    rw [txRows, rowsP, List.map_cons, List.map_cons, Lib.join_cons, Lib.join_cons, un_row (h xs (by simp)), un_tail p (fun y hy => h y (by simp [hy]))]
theorem POk.cell {p : List (List Int)} (h : POk p) : ∀ xs, xs ∈ p → xs.length ≤ 10 ∧ ∀ v, v ∈ xs → -1 ≤ v ∧ v ≤ 9 := by
  intro xs hxs
  obtain ⟨x, hx, rfl⟩ := List.mem_iff_getElem.1 hxs
  have hg : gr p x = p[x] := gr_of (List.getElem?_eq_getElem hx)
  have hl := h.2.2.1.2 x hx
  rw [hg] at hl
  have h10 := h.2.1
  refine ⟨by omega, fun v hv => ?_⟩
  obtain ⟨y, hy, rfl⟩ := List.mem_iff_getElem.1 hv
  have hc := h.2.2.2 x y hx (by omega)
  have ha : at2 p x y = p[x][y] := by rw [at2, hg]; exact gi_of (List.getElem?_eq_getElem hy)
  unfold PCell at hc
  rw [ha] at hc
  omega

/-- A dot reads as an empty cell. -/
def fx (v : Int) : Int := if v = -2 then -1 else v
def rdP (l : List UInt8) : List (List Int) := (rdRows l).map (·.map fx)
theorem rdP_len (l : List UInt8) : (rdP l).length = (parts l).length := by rw [rdP, List.length_map, rdRows_len]
theorem part_clean {l p : List UInt8} (h : p ∈ parts l) : (47 : UInt8) ∉ p := by
  induction l generalizing p with
  | nil => simp [parts] at h; subst h; simp
  | cons b r ih =>
    by_cases hb : b = 47
    · subst hb
      rw [parts_eq] at h
      rcases List.mem_cons.1 h with rfl | h
      · simp
      · exact ih h
    · obtain ⟨p', q, hp⟩ := List.exists_cons_of_ne_nil (parts_ne r)
      rw [parts_cons hb hp] at h
      rcases List.mem_cons.1 h with rfl | h
      · intro hm
        rcases List.mem_cons.1 hm with h9 | h9
        · exact hb h9.symm
        · exact ih (p := p') (by rw [hp]; simp) h9
      · exact ih (by rw [hp]; simp [h])
theorem pcb_dot : pcb (fx (dv 46)) = 46 := by decide
theorem dv_46 {b : UInt8} (h : dv b = -2) : b = 46 := by
  unfold dv at h
  apply UInt8.toNat_inj.1
  show b.toNat = 46
  omega
theorem dv_47 {b : UInt8} (h : dv b = -1) : b = 47 := by
  unfold dv at h
  apply UInt8.toNat_inj.1
  show b.toNat = 47
  omega
/-- In a partial square each byte is a dot or a digit and each row is short. -/
theorem POk.digits {l : List UInt8} (h : POk (rdP l)) : (parts l).length ≤ 10 ∧ ∀ p, p ∈ parts l → p.length ≤ 10 ∧ ∀ b, b ∈ p → b = 46 ∨ (0 ≤ dv b ∧ dv b ≤ 9) := by
  have hl := rdP_len l
  refine ⟨by have := h.2.1; omega, fun p hp => ?_⟩
  have hm : (p.map dv).map fx ∈ rdP l := by rw [rdP, rdRows, List.map_map]; exact List.mem_map_of_mem (f := (fun xs : List Int => xs.map fx) ∘ fun p : List UInt8 => p.map dv) hp
  have hc := h.cell _ hm
  rw [List.length_map, List.length_map] at hc
  refine ⟨hc.1, fun b hb => ?_⟩
  have h1 := hc.2 (fx (dv b)) (List.mem_map_of_mem (List.mem_map_of_mem hb))
  by_cases h2 : dv b = -2
  · exact .inl (dv_46 h2)
  · right
    rw [fx, if_neg h2] at h1
    have h3 : dv b ≠ -1 := fun h3 => part_clean hp (by rw [← dv_47 h3]; exact hb)
    omega
theorem rowsP_text {l : List UInt8} (h : POk (rdP l)) : rowsP (rdP l) = l := by
  have hd := h.digits.2
  have e : (rdP l).map rowP = parts l := by
    rw [rdP, rdRows, List.map_map, List.map_map]
    conv => rhs; rw [← List.map_id (parts l)]
    refine List.map_congr_left fun p hp => ?_
    show ((p.map dv).map fx).map pcb = p
    rw [List.map_map, List.map_map]
    conv => rhs; rw [← List.map_id p]
    refine List.map_congr_left fun b hb => ?_
    show pcb (fx (dv b)) = b
    rcases (hd p hp).2 b hb with rfl | ⟨h1, h2⟩
    · exact pcb_dot
    · rw [fx, if_neg (by omega), pcb, if_neg (by omega)]; exact dgB_dv h1 h2
  rw [rowsP, e, join_parts]
theorem pqTx_rd {l : List UInt8} (h : POk (rdP l)) : pqTx (rdP l) = bs l := by rw [pqTx_yes h, rowsP_text h]
open Classical in
/-- What ReadPartial gives. -/
noncomputable def rpM (l : List UInt8) : List (List Int) := if POk (rdP l) then rdP l else []
theorem rpM_yes {l : List UInt8} (h : POk (rdP l)) : rpM l = rdP l := if_pos h
theorem rpM_no {l : List UInt8} (h : ¬ POk (rdP l)) : rpM l = [] := if_neg h
theorem rpM_tot (l : List UInt8) : tot (rpM l) ≤ 1048576 := by
  by_cases h : POk (rdP l)
  · rw [rpM_yes h]
    have := tot_small (rdP l) 10 10 h.2.1 (fun r hr => (h.cell r hr).1)
    omega
  · rw [rpM_no h]; simp [tot]
end Go.Proofs.YtnimmkfkijcbbaaDoor
