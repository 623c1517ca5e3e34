/- Reading rows of digits, in plain words. Conditions: none. -/
import Derived.Test.YtnimmkfkijcbbaaDoorSpl
import Derived.Test.YtnimmkfkijcbbaaDoorSqP
import Derived.Test.YtnimmkfkijcbbaaDoorSz
namespace Go.Proofs.YtnimmkfkijcbbaaDoor

/-- The number that a byte stands for. -/
def dv (b : UInt8) : Int := (b.toNat : Int) - 48
/-- The numbers of a text: its parts, byte by byte. -/
def rdRows (l : List UInt8) : List (List Int) := (parts l).map (·.map dv)
theorem rdRows_len (l : List UInt8) : (rdRows l).length = (parts l).length := by simp [rdRows]
theorem rdRows_at {l p : List UInt8} {x : Nat} (h : (parts l)[x]? = some p) : gr (rdRows l) x = p.map dv := gr_of (by simp [rdRows, h])
theorem dgB_dv {b : UInt8} (h1 : 0 ≤ dv b) (h2 : dv b ≤ 9) : dgB (dv b) = b := by
  have h3 : (b.toNat : Int) - 48 = dv b := rfl
  have h4 : (dv b).toNat = b.toNat - 48 := by omega
  rw [dgB, h4, show 48 + (b.toNat - 48) = b.toNat by omega]
  simp
/-- In a Latin square each byte is a digit and each row is short. -/
theorem SqOk.digits {l : List UInt8} (h : SqOk (rdRows l)) : (parts l).length ≤ 10 ∧ ∀ p, p ∈ parts l → p.length ≤ 10 ∧ ∀ b, b ∈ p → 0 ≤ dv b ∧ dv b ≤ 9 := by
  have hl := rdRows_len l
  refine ⟨by have := h.2.1; omega, fun p hp => ?_⟩
  obtain ⟨x, hx, rfl⟩ := List.mem_iff_getElem.1 hp
  have hg := rdRows_at (List.getElem?_eq_getElem hx)
  have hr := h.2.2.1.2 x (by omega)
  have hi := h.2.2.2.1 x (by omega)
  rw [hg, List.length_map] at hr
  have h10 := h.2.1
  refine ⟨by omega, fun b hb => ?_⟩
  have := hi.2 (dv b) (by rw [hg]; exact List.mem_map_of_mem hb)
  rw [hg, List.length_map] at this
  omega
theorem rows_text {l : List UInt8} (h : SqOk (rdRows l)) : rowsB (rdRows l) = l := by
  have hd := h.digits.2
  have e : (rdRows l).map rowB = parts l := by
    rw [rdRows, List.map_map]
    conv => rhs; rw [← List.map_id (parts l)]
    refine List.map_congr_left fun p hp => ?_
    show (p.map dv).map dgB = p
    rw [List.map_map]
    conv => rhs; rw [← List.map_id p]
    refine List.map_congr_left fun b hb => ?_
    obtain ⟨h1, h2⟩ := (hd p hp).2 b hb
    exact dgB_dv h1 h2
  rw [rowsB, e, join_parts]
theorem sqTx_rd {l : List UInt8} (h : SqOk (rdRows l)) : sqTx (rdRows l) = ⟨l.toArray⟩ := by rw [sqTx_yes h, rows_text h]
open Classical in
/-- What ReadSquare gives. -/
noncomputable def rdM (l : List UInt8) : List (List Int) := if SqOk (rdRows l) then rdRows l else []
theorem rdM_yes {l : List UInt8} (h : SqOk (rdRows l)) : rdM l = rdRows l := if_pos h
theorem rdM_no {l : List UInt8} (h : ¬ SqOk (rdRows l)) : rdM l = [] := if_neg h
theorem tot_small (p : List (List Int)) (m n : Nat) (hl : p.length ≤ m) (h : ∀ r, r ∈ p → r.length ≤ n) : tot p ≤ m * n := by
  induction p generalizing m with
  | nil => simp [tot]
  | cons x r ih =>
    cases m with
    | zero => simp at hl
    | succ m =>
      have h1 := h x (by simp)
      have h2 := ih m (by simpa using hl) (fun y hy => h y (by simp [hy]))
      rw [tot, Nat.succ_mul]; omega
theorem rdM_tot (l : List UInt8) : tot (rdM l) ≤ 1048576 := by
  by_cases h : SqOk (rdRows l)
  · rw [rdM_yes h]
    have hd := h.digits
    have := tot_small (rdRows l) 10 10 (by rw [rdRows_len]; exact hd.1) (fun r hr => by
      rw [rdRows] at hr
      obtain ⟨p, hp, rfl⟩ := List.mem_map.1 hr
      rw [List.length_map]; exact (hd.2 p hp).1)
    omega
  · rw [rdM_no h]; simp [tot]
end Go.Proofs.YtnimmkfkijcbbaaDoor
