/- Arguments opened: what the walk is told of what came in. Conditions: none. -/
import Derived.Test.YtnimmkfkijcbbaaDoorLib
import Derived.ProofKit
import Derived.OpenShut
import Derived.ShutString
import Derived.ChangeOld
import Derived.Below
import Derived.Lib.SmallJoins
import Derived.Deep.Slices
import Derived.Deep.Matrix
namespace Go.Proofs.YtnimmkfkijcbbaaDoor
open Go.ChangeShapes Go.WideShapes Go.ChangeAt Go.RowKit Go.Joins

theorem own : ownKnob Tryd.prog.godebug = none := by kernel_rfl
theorem laidOut : laidOutB Tryd.prog = true := by kernel_rfl

theorem wf_lo {n : Int} (h : (Lit.int .i64 n).wf = true) : -9223372036854775808 ≤ n := (bounds_i64 h).1
theorem wf_hi {n : Int} (h : (Lit.int .i64 n).wf = true) : n ≤ 9223372036854775807 := (bounds_i64 h).2

theorem wf_of_bounds {n : Int} (h1 : -9223372036854775808 ≤ n) (h2 : n ≤ 9223372036854775807) : (Lit.int .i64 n).wf = true := WalkArith.wf_i64 ⟨h1, h2⟩


section
variable {H : Type} {enc : TypeId × Value → H} {W : World} {base : Nat} {v : Value} {d : DataW H} {ps : List MemPlace}

theorem plain_add (b off k : Nat) : (⟨b, off, none⟩ : Addr).add k = ⟨b, off + k, none⟩ := Go.WideShapes.add_plain b off k

theorem rd_of_cells {a : Option Addr} {n c : Nat} {Z : List Int} (hl : n ≤ c) (hm : c ≤ maxLen) (hz : Z.length = c) (hn : a = none → c = 0) (hc : ∀ a', a = some a' → ∀ i, i < c → W.cell? (a'.add i) = some (.int .i64 (Z.getD i 0))) :
    RdI W a n c (Z.take n) := by
  refine ⟨by rw [List.length_take]; omega, hl, by unfold maxLen at hm; omega, hn, fun k x hx => ?_⟩
  have hk : k < n := by
    have := (List.getElem?_eq_some_iff.1 hx).1
    rw [List.length_take] at this; omega
  rw [List.getElem?_take, if_pos hk] at hx
  cases a with
  | none => have := hn rfl; omega
  | some a' =>
    obtain ⟨b, off, spot⟩ := a'
    have h0 := hc _ rfl 0 (by omega)
    have hs : spot = none := by simpa [Addr.add] using World.cell?_spot h0
    subst hs
    have h1 := hc _ rfl k (by omega)
    rw [plain_add] at h1
    refine ⟨b, off, _, rfl, h1, ?_⟩
    rw [List.getD, hx]
    rfl

set_option maxRecDepth 100000 in
theorem open_S (hv : Value.okWide Tryd.prog W .any base 32 v) (h : DataW.Trod enc Tryd.prog W 0 (fun _ => true) true 32 v d ps) : ∃ a n c xs, v = .slice a n c ∧ RdI W a n c xs := by
  obtain ⟨a0, len, cap, rfl⟩ := okWide_slice Tryd.underlying32 hv
  obtain ⟨fuel, hf⟩ := h
  rcases open_ints Tryd.underlying32 Tryd.underlying2 (by kernel_rfl) hf with ⟨hcs, _⟩ | ⟨x, l, c, zs, hcs, _, hl, hm, hz, _, hcell, _⟩
  · simp [Value.cells] at hcs
    obtain ⟨rfl, rfl, rfl⟩ := hcs
    exact ⟨none, 0, 0, [], rfl, rfl, Nat.le_refl _, Nat.zero_le _, fun _ => rfl, fun k x hx => by simp at hx⟩
  · simp [Value.cells] at hcs
    obtain ⟨rfl, rfl, rfl⟩ := hcs
    simp only [if_true] at hz
    exact ⟨_, _, _, _, rfl, rd_of_cells hl hm hz (fun e => by cases e) (fun a' e i hi => by cases e; exact hcell i (by omega))⟩

set_option maxRecDepth 100000 in
theorem rows_of_trod {fuel : Nat} {len cap : Nat} {a0 : Option Addr} {x : DataW H × List MemPlace} (hf : DataW.trod enc Tryd.prog W 0 (fun _ => true) true fuel 22 [.slice a0 len cap] = some x) : ∃ xss, RdR W a0 len cap xss := by
  rcases Go.Deep.open_int_rows Tryd.underlying22 Tryd.underlying32 Tryd.underlying2 (by kernel_rfl) (by kernel_rfl) hf with ⟨hcs, _⟩ | ⟨a, l, c, A, L, C, Z, hcs, _, hl, hm, _, hr⟩
  · simp at hcs
    obtain ⟨rfl, rfl, rfl⟩ := hcs
    exact ⟨[], rfl, Nat.le_refl _, Nat.zero_le _, fun _ => rfl, fun k x hx => by simp at hx⟩
  · simp at hcs
    obtain ⟨rfl, rfl, rfl⟩ := hcs
    refine ⟨(List.range len).map fun r => (Z r).take (L r), by simp, hl, by unfold maxLen at hm; omega, fun e => by (cases e), fun k xs hx => ?_⟩
    have hk : k < len := by
      have := (List.getElem?_eq_some_iff.1 hx).1
      simpa using this
    obtain ⟨h1, h2, h3, h4, h5, h6, h7⟩ := hr k (by omega)
    obtain ⟨b, off, spot⟩ := a
    have h0 := (hr 0 (by omega)).1
    have hs : spot = none := by simpa [Addr.add] using World.cell?_spot h0
    subst hs
    rw [plain_add] at h1
    simp [hk] at hx
    subst hx
    exact ⟨b, off, _, rfl, h1, _, _, _, rfl, rd_of_cells h2 h3 h4 h6 (fun a' e i hi => (h7 a' e).2 i hi)⟩

set_option maxRecDepth 100000 in
theorem open_SS (hv : Value.okWide Tryd.prog W .any base 22 v) (h : DataW.Trod enc Tryd.prog W 0 (fun _ => true) true 22 v d ps) : ∃ a n c xss, v = .slice a n c ∧ RdR W a n c xss := by
  obtain ⟨a0, len, cap, rfl⟩ := okWide_slice Tryd.underlying22 hv
  obtain ⟨fuel, hf⟩ := h
  obtain ⟨xss, hx⟩ := rows_of_trod (by simpa [Value.cells] using hf)
  exact ⟨_, _, _, _, rfl, hx⟩

theorem int_cell {fuel : Nat} {c0 : Value} {y : DataW H × List MemPlace} (h : DataW.trod enc Tryd.prog W 0 (fun _ => true) true fuel 2 [c0] = some y) : ∃ z : Int, c0 = .int .i64 z ∧ (Lit.int .i64 z).wf = true := by
  obtain ⟨z, e0, _, wz⟩ := DataW.trod_int Tryd.underlying2 h
  simp at e0
  exact ⟨z, e0, wz⟩


end

end Go.Proofs.YtnimmkfkijcbbaaDoor
