/- Tails of slices. Conditions: none. -/
import Derived.Test.YtgggbicmmijlnaaGet
namespace Go.Proofs.Ytgggbicmmijlnaa
open Go.RowKit

/-- The slice expression s[m:]. -/
theorem Rd.from_ {α : Type} {R : World → Value → α → Prop} {w : World} {b o : Nat} {n c : Nat} {xs : List α} (h : Rd R w (some ⟨b, o, none⟩) n c xs) {m : Nat} (hm : m ≤ n) : Rd R w (some ⟨b, o + m, none⟩) (n - m) (c - m) (xs.drop m) :=
  ⟨by have := h.len; rw [List.length_drop]; omega, by have := h.le; omega, by have := h.max; omega, fun e => (by cases e), fun k x hx => by
    rw [List.getElem?_drop] at hx
    obtain ⟨b', o', v, h1, h2, h3⟩ := h.get (m + k) x hx
    cases h1
    exact ⟨b, o + m, v, rfl, by rw [show o + m + k = o + (m + k) by omega]; exact h2, h3⟩⟩

theorem gi_drop {xs : List Int} {m j : Nat} : gi (xs.drop m) j = gi xs (m + j) := by simp [gi, List.getD_eq_getElem?_getD, List.getElem?_drop]
theorem rd_empty {w : World} {b o c : Nat} (hc : c ≤ 9223372036854775807) : RdI w (some ⟨b, o, none⟩) 0 c [] := ⟨rfl, Nat.zero_le _, hc, (fun e => by cases e), fun k x hx => by simp at hx⟩
theorem rd_empty' {w : World} {b o n c : Nat} (hn : n = 0) (hc : c ≤ 9223372036854775807) : RdI w (some ⟨b, o, none⟩) n c [] := by subst hn; exact rd_empty hc
theorem rd_none {α : Type} {R : World → Value → α → Prop} {w : World} {b o n c : Nat} (hn : n = 0) (hc : c ≤ 9223372036854775807) : Rd R w (some ⟨b, o, none⟩) n c [] := by
  subst hn
  exact ⟨rfl, Nat.zero_le _, hc, (fun e => by cases e), fun k x hx => by simp at hx⟩
end Go.Proofs.Ytgggbicmmijlnaa
