/- Parities of squares, in plain words. Conditions: none. -/
import Derived.Test.YtkapkieeafhaoaaOdd
import Derived.Test.YtkapkieeafhaoaaQuaP
import Derived.Test.YtkapkieeafhaoaaSymC
namespace Go.Proofs.Ytkapkieeafhaoaa
open Go.RowKit

def colsM (p : List (List Int)) (n k : Nat) : List (List Int) := (List.range k).map fun y => col p n y
theorem colsM_succ (p : List (List Int)) (n k : Nat) : colsM p n (k + 1) = colsM p n k ++ [col p n k] := by rw [colsM, List.range_succ, List.map_append]; rfl
theorem gr_colsM {p : List (List Int)} {n k y : Nat} (h : y < k) : gr (colsM p n k) y = col p n y := gr_of (by simp [colsM, h])
theorem colsM_rect (p : List (List Int)) (n : Nat) : Rect (colsM p n n) n n := ⟨by simp [colsM], fun y hy => by rw [gr_colsM hy, col_length]⟩

theorem perms_rows {p : List (List Int)} {n : Nat} (h : SqOk p) (hn : n = p.length) : Perms p n := by
  subst hn; exact ⟨h.2.2.1, h.2.1, h.2.2.2.1⟩
theorem perms_cols {p : List (List Int)} {n : Nat} (h : SqOk p) (hn : n = p.length) : Perms (colsM p n n) n := by
  subst hn; exact ⟨colsM_rect _ _, h.2.1, fun y hy => by rw [gr_colsM hy]; exact h.2.2.2.2 y hy⟩
theorem perms_syms {p : List (List Int)} {n : Nat} (h : SqOk p) (hn : n = p.length) : Perms (colsM (bkM p n) n n) n := by
  have hT := bkM_tab h hn
  refine ⟨colsM_rect _ _, hT.1.2.1, fun s hs => ?_⟩
  rw [gr_colsM hs]
  refine ⟨?_, fun v hv => ?_⟩
  · rw [List.Nodup, List.pairwise_iff_getElem]
    intro i j hi hj hij e
    rw [col_length] at hi hj
    have e1 : at2 (bkM p n) i s = at2 (bkM p n) j s := by
      have h1 := gi_col (p := bkM p n) (y := s) hi
      have h2 := gi_col (p := bkM p n) (y := s) hj
      rw [gi_of (List.getElem?_eq_getElem (by rw [col_length]; exact hi))] at h1
      rw [gi_of (List.getElem?_eq_getElem (by rw [col_length]; exact hj))] at h2
      rw [← h1, ← h2, e]
    obtain ⟨y, k1, k2, k3⟩ := hT.at_ h hn hi hs
    obtain ⟨z, m1, m2, m3⟩ := hT.at_ h hn hj hs
    have : y = z := by omega
    subst this
    have := h.colInj hn hi hj k2 (by rw [k3, m3])
    omega
  · obtain ⟨i, hi, rfl⟩ := mem_gi hv
    rw [col_length] at hi ⊢
    rw [gi_col hi]
    have := hT.1.2.2 i s hi hs
    omega
theorem symTo_col {p : List (List Int)} {n s : Nat} (h : SqOk p) (hn : n = p.length) (hs : s < n) (k : Nat) (hk : k ≤ n) : symTo p (s : Int) n k = col (bkM p n) k s := by
  induction k with
  | zero => rfl
  | succ k ih =>
    obtain ⟨r, k1, k2, k3⟩ := (bkM_tab h hn).at_ h hn (show k < n by omega) hs
    rw [symTo, ih (by omega), col_succ, k1, hits_of (r := r) (fun j hj => ⟨fun e => h.rowInj hn (show k < n by omega) hj k2 (by rw [e, k3]), fun e => by subst e; exact k3⟩) _ (Nat.le_refl _), if_pos k2]

def parL (p : List (List Int)) (n : Nat) : List Int := [((odds p % 2 : Nat) : Int), ((odds (colsM p n n) % 2 : Nat) : Int), ((odds (colsM (bkM p n) n n) % 2 : Nat) : Int)]
noncomputable def parM (p : List (List Int)) : List Int := if pb (SqOk p) then parL p p.length else []
noncomputable def parC (p : List (List Int)) : Int := if pb (SqOk p) then 0 else 1
theorem parM_len (p : List (List Int)) : (parM p).length ≤ 1048576 := by
  rw [parM]
  split
  · simp [parL]
  · simp
end Go.Proofs.Ytkapkieeafhaoaa
