/- ReplicationsOf of both. Conditions: none. -/
import Derived.Test.YtgggbicmmijlnaaVd
namespace Go.Proofs.Ytgggbicmmijlnaa
open Go.RowKit

def bump (xs : List Int) (v : Int) : List Int := xs.set v.toNat (gi xs v.toNat + 1)
def bumps (z : Nat) (l : List Int) : List Int := l.foldl bump (List.replicate z 0)
theorem bumps_snoc (z : Nat) (l : List Int) (v : Int) : bumps z (l ++ [v]) = bump (bumps z l) v := by simp [bumps]
theorem bump_length (xs : List Int) (v : Int) : (bump xs v).length = xs.length := by simp [bump]
theorem foldl_bump_length (l : List Int) : ∀ xs : List Int, (l.foldl bump xs).length = xs.length := by
  induction l with
  | nil => intro xs; rfl
  | cons v r ih => intro xs; rw [List.foldl_cons, ih, bump_length]
theorem bumps_length (z : Nat) (l : List Int) : (bumps z l).length = z := by rw [bumps, foldl_bump_length, List.length_replicate]
theorem gi_set (xs : List Int) (i j : Nat) (v : Int) (hi : i < xs.length) : gi (xs.set i v) j = if j = i then v else gi xs j := by
  by_cases e : j = i
  · subst e; rw [if_pos rfl]; exact gi_of (by simp [hi])
  · rw [if_neg e]
    have e' : ¬ i = j := fun h => e h.symm
    simp [gi, List.getElem?_set, e']
theorem gi_none {xs : List Int} {k : Nat} (h : xs.length ≤ k) : gi xs k = 0 := by
  simp [gi, List.getD_eq_getElem?_getD, List.getElem?_eq_none h]
theorem bump_range {xs : List Int} {v b : Int} (h : ∀ i, 0 ≤ gi xs i ∧ gi xs i ≤ b) : ∀ i, 0 ≤ gi (bump xs v) i ∧ gi (bump xs v) i ≤ b + 1 := by
  intro i
  have hi := h i
  by_cases e : v.toNat < xs.length
  · rw [bump, gi_set _ _ _ _ e]
    have hv := h v.toNat
    split <;> omega
  · rw [bump, List.set_eq_of_length_le (by omega)]
    omega
theorem bumps_range (z : Nat) (l : List Int) : ∀ i, 0 ≤ gi (bumps z l) i ∧ gi (bumps z l) i ≤ l.length := by
  have key : ∀ (l xs : List Int) (b : Int), (∀ i, 0 ≤ gi xs i ∧ gi xs i ≤ b) → ∀ i, 0 ≤ gi (l.foldl bump xs) i ∧ gi (l.foldl bump xs) i ≤ b + l.length := by
    intro l
    induction l with
    | nil => intro xs b h i; simpa using h i
    | cons v r ih =>
      intro xs b h i
      have := ih (bump xs v) (b + 1) (bump_range h) i
      rw [List.foldl_cons, List.length_cons]
      omega
  intro i
  have := key l (List.replicate z 0) 0 (fun j => by
    by_cases e : j < z
    · rw [gi_of (v := 0) (by simp [e])]; omega
    · rw [gi_none (by simp; omega)]; omega) i
  rw [bumps]; omega

/-- All numbers ahead of place (k, y). -/
def pre (p : List (List Int)) (k y : Nat) : List Int := (p.take k).flatten ++ (gr p k).take y
theorem pre_zero (p : List (List Int)) : pre p 0 0 = [] := by simp [pre]
theorem pre_row {p : List (List Int)} {k : Nat} (hk : k < p.length) : pre p (k + 1) 0 = pre p k (gr p k).length := by
  rw [pre, pre, List.take_length]
  obtain ⟨h1, h2⟩ := List.getElem?_eq_some_iff.1 (gr_get hk)
  rw [List.take_succ_eq_append_getElem h1, h2]
  simp
theorem pre_succ {p : List (List Int)} {k y : Nat} (hy : y < (gr p k).length) : pre p k (y + 1) = pre p k y ++ [gi (gr p k) y] := by
  obtain ⟨h1, h2⟩ := List.getElem?_eq_some_iff.1 (gi_get hy)
  rw [pre, pre, List.take_succ_eq_append_getElem h1, h2, List.append_assoc]
theorem pre_end (p : List (List Int)) : pre p p.length 0 = p.flatten := by simp [pre]

def repOf (z : Int) (p : List (List Int)) : List Int := bumps z.toNat p.flatten
noncomputable def repM (z : Int) (p : List (List Int)) : List Int := if pb (DsnOk z p) then repOf z p else []
noncomputable def repC (z : Int) (p : List (List Int)) : Int := if pb (DsnOk z p) then 0 else 1
theorem repM_len (z : Int) (p : List (List Int)) : (repM z p).length ≤ 1048576 := by
  rw [repM]
  split
  · rename_i h
    have := (pb_iff.1 h).1
    rw [repOf, bumps_length]; omega
  · simp

theorem BlkOk.at_ {z : Nat} {b : List Int} (h : BlkOk (z : Int) b) {y : Nat} (hy : y < b.length) : ∃ v : Nat, gi b y = v ∧ v < z := by
  have := (h.2 y hy).1
  exact ⟨(gi b y).toNat, by omega, by omega⟩
theorem BlkOk.len {z : Nat} {b : List Int} (h : BlkOk (z : Int) b) : b.length ≤ z := by
  have := RisesTo.len h.2 h.1; omega

theorem pre_len {p : List (List Int)} {z : Nat} (h : AllBlk (z : Int) p) (hz : z ≤ 32) : ∀ k, k ≤ p.length → (pre p k 0).length ≤ 32 * k := by
  intro k
  induction k with
  | zero => intro _; simp [pre]
  | succ k ih =>
    intro hk
    rw [pre_row (by omega), pre, List.length_append, List.take_length]
    have h1 := ih (by omega)
    have h2 := (h k (by omega)).len
    rw [show pre p k 0 = (p.take k).flatten by simp [pre]] at h1
    omega

set_option maxRecDepth 100000 in
set_option maxHeartbeats 1600000 in
theorem l10Replications_any (b0 : Nat) (z : Nat) (a : Option Addr) (n c : Nat) (p : List (List Int)) (w0 : World) (hB : Bx w0 b0 z a n c) (hx0 : RdR w0 a n c p) (hd : DsnOk z p) :
    Calls Try.prog 59 #[.pointer (some ⟨b0, 0, none⟩)] w0 (RetI w0 (repOf z p)) := by
  have hz32 : z ≤ 32 := by have := hd.1; omega
  have hmk := run_make_row' (P := Try.prog) 56 2 (.int .i64 0) 8 Try.underlying56 Try.info_i64 rfl .i64 .i64 z (by omega) (by omega)
  have hb1 := hx0.le
  have hb2 := hx0.max
  have Hx := Lib.hid hx0.len
  have hn : n ≤ 128 := by rw [Hx.out]; exact hd.2.1
  have hall : Hid (AllBlk (z : Int) p) := Lib.hid hd.2.2.1
  clear hd
  obtain ⟨p0, p1⟩ := hB.ext (Ext.refl w0)
  go_enter Try.func59, Try.ntmps59
  go_wp2
  clear hmk
  clear p0 p1
  have H0 := own_made w0 2 (Value.int .i64) 0 z (by omega)
  have hEa : Ext w0 (w0.alloc (.cells (madeCells #[.int .i64 0] z) 2)) := (Ext.refl _).alloc _
  go_loopg [4] n (fun g i wr => ∃ k : Nat, k ≤ n ∧ g = n - k ∧ i = .int .i64 k ∧ OwnI wr w0.heap.size (some ⟨w0.heap.size, 0, none⟩) z z (bumps z (pre p k 0)) ∧ Ext w0 wr)
  case atStart => exact ⟨0, Nat.zero_le _, rfl, rfl, by rw [pre_zero]; exact H0, hEa⟩
  case round =>
    obtain ⟨k, hk, rfl, rfl, hO, hE⟩ := hrel
    clear H0 hEa
    obtain ⟨p0, p1⟩ := hB.ext hE
    by_cases hlt : k < n
    · have hz1 : (k : Int) < (n : Int) := by omega
      have hkp : k < p.length := by rw [← Hx.out]; exact hlt
      obtain ⟨b, o, ai, m, ci, rfl, hc0, hrow⟩ := hx0.gr hlt
      have hc := hE.cell hc0
      have hq1 := hrow.le
      have hq2 := hrow.max
      have Hm := Lib.hid hrow.len
      have hm32 : m ≤ 32 := by have := (hall.out k hkp).len; rw [← Hm.out] at this; omega
      go_wp2
      clear hc
      go_loopg [5] m (fun g i wr => ∃ y : Nat, y ≤ m ∧ g = m - y ∧ i = .int .i64 y ∧ OwnI wr w0.heap.size (some ⟨w0.heap.size, 0, none⟩) z z (bumps z (pre p k y)) ∧ Ext w0 wr)
      case atStart => exact ⟨0, Nat.zero_le _, rfl, rfl, hO, hE⟩
      case round =>
        obtain ⟨y, hy, rfl, rfl, hO2, hE2⟩ := hrel
        clear hO hE
        clear p0 p1
        obtain ⟨p0, p1⟩ := hB.ext hE2
        have hc := hE2.cell hc0
        by_cases hly : y < m
        · have hz2 : (y : Int) < (m : Int) := by omega
          have hyl : y < (gr p k).length := by rw [← Hm.out]; exact hly
          obtain ⟨v, hv, hvz⟩ := (hall.out k hkp).at_ hyl
          obtain ⟨b1, o1, hai, hc1⟩ := hrow.gi hly
          rw [hv] at hc1
          subst hai
          have hc2 := hE2.cell hc1
          obtain ⟨g, x, hg, hB1, hoc, hof, Hxx⟩ := hO2.at_ hvz
          cases hg
          have hx1 := gi_of Hxx.out
          have hr := bumps_range z (pre p k y) v
          rw [hx1] at hr
          have hpl : (pre p k y).length ≤ 100000 := by
            have h1 := pre_len hall.out hz32 k (by omega)
            rw [show pre p k 0 = (p.take k).flatten by simp [pre]] at h1
            rw [pre, List.length_append, List.length_take]
            omega
          have hx0' : 0 ≤ x := hr.1
          have hx2 : x ≤ 100000 := by omega
          have hvz1 : (v : Int) < (z : Int) := by omega
          have hO3 := hO2.set (k := v) rfl (x + 1)
          rw [show (bumps z (pre p k y)).set v (x + 1) = bumps z (pre p k (y + 1)) by rw [pre_succ hyl, bumps_snoc, hv, bump, Int.toNat_natCast, hx1]] at hO3
          have hE3 := hE2.setCell (p := ⟨w0.heap.size, v, none⟩) (Nat.le_refl _) (.int .i64 (x + 1))
          clear hr hpl hO2 hE2 hx1 hv
          go_wp2
          go_roundg (m - (y + 1))
          case measure => go_light; omega
          case rel => go_light; exact ⟨y + 1, by omega, rfl, by go_num, hO3, hE3⟩
        · have hz2 : ¬ (y : Int) < (m : Int) := by omega
          obtain rfl : m = y := by omega
          rw [show pre p k m = pre p (k + 1) 0 by rw [pre_row hkp, ← Hm.out]] at hO2
          go_wp2
          go_roundg (n - (k + 1))
          case measure => go_light; omega
          case rel => go_light; exact ⟨k + 1, by omega, rfl, by go_num, hO2, hE2⟩
    · have hz1 : ¬ (k : Int) < (n : Int) := by omega
      obtain rfl : n = k := by omega
      have he : pre p n 0 = p.flatten := by rw [Hx.out, pre_end]
      rw [he] at hO
      go_wp2
      go_ret
      exact ⟨_, _, _, rfl, by rw [repOf, Int.toNat_natCast]; exact hO.base (by omega), hE⟩

set_option maxRecDepth 100000 in
set_option maxHeartbeats 1600000 in
theorem replicationsOf_any (z : Nat) (a : Option Addr) (n c : Nat) (p : List (List Int)) (w0 : World) (hx0 : RdR w0 a n c p) (hd : DsnOk z p) :
    Calls Try.prog 65 #[.agg #[.int .i64 z, .slice a n c]] w0 (RetI w0 (repOf z p)) := by
  have hz32 : z ≤ 32 := by have := hd.1; omega
  have hmk := run_make_row' (P := Try.prog) 56 2 (.int .i64 0) 8 Try.underlying56 Try.info_i64 rfl .i64 .i64 z (by omega) (by omega)
  have hb1 := hx0.le
  have hb2 := hx0.max
  have Hx := Lib.hid hx0.len
  have hn : n ≤ 128 := by rw [Hx.out]; exact hd.2.1
  have hall : Hid (AllBlk (z : Int) p) := Lib.hid hd.2.2.1
  clear hd
  go_enter Try.func65, Try.ntmps65
  go_wp2
  clear hmk
  have hE0 : Ext w0 (w0.alloc (.cells #[.int .i64 z, .slice a n c] 30)) := (Ext.refl _).alloc _
  have H0 := own_made (w0.alloc (.cells #[.int .i64 z, .slice a n c] 30)) 2 (Value.int .i64) 0 z (by omega)
  have hEa := hE0.alloc (.cells (madeCells #[.int .i64 0] z) 2)
  have hsz : (w0.alloc (.cells #[.int .i64 z, .slice a n c] 30)).heap.size = w0.heap.size + 1 := by simp
  rw [hsz] at H0
  go_loopg [14] n (fun g i wr => ∃ k : Nat, k ≤ n ∧ g = n - k ∧ i = .int .i64 k ∧ OwnI wr (w0.heap.size + 1) (some ⟨w0.heap.size + 1, 0, none⟩) z z (bumps z (pre p k 0)) ∧ Ext w0 wr)
  case atStart => exact ⟨0, Nat.zero_le _, rfl, rfl, by rw [pre_zero]; exact H0, hEa⟩
  case round =>
    obtain ⟨k, hk, rfl, rfl, hO, hE⟩ := hrel
    clear H0 hEa
    by_cases hlt : k < n
    · have hz1 : (k : Int) < (n : Int) := by omega
      have hkp : k < p.length := by rw [← Hx.out]; exact hlt
      obtain ⟨b, o, ai, m, ci, rfl, hc0, hrow⟩ := hx0.gr hlt
      have hc := hE.cell hc0
      have hq1 := hrow.le
      have hq2 := hrow.max
      have Hm := Lib.hid hrow.len
      have hm32 : m ≤ 32 := by have := (hall.out k hkp).len; rw [← Hm.out] at this; omega
      go_wp2
      clear hc
      go_loopg [20] m (fun g i wr => ∃ y : Nat, y ≤ m ∧ g = m - y ∧ i = .int .i64 y ∧ OwnI wr (w0.heap.size + 1) (some ⟨w0.heap.size + 1, 0, none⟩) z z (bumps z (pre p k y)) ∧ Ext w0 wr)
      case atStart => exact ⟨0, Nat.zero_le _, rfl, rfl, hO, hE⟩
      case round =>
        obtain ⟨y, hy, rfl, rfl, hO2, hE2⟩ := hrel
        clear hO hE
        by_cases hly : y < m
        · have hz2 : (y : Int) < (m : Int) := by omega
          have hyl : y < (gr p k).length := by rw [← Hm.out]; exact hly
          obtain ⟨v, hv, hvz⟩ := (hall.out k hkp).at_ hyl
          obtain ⟨b1, o1, hai, hc1⟩ := hrow.gi hly
          rw [hv] at hc1
          subst hai
          have hc2 := hE2.cell hc1
          obtain ⟨g, x, hg, hB1, hoc, hof, Hxx⟩ := hO2.at_ hvz
          cases hg
          have hx1 := gi_of Hxx.out
          have hr := bumps_range z (pre p k y) v
          rw [hx1] at hr
          have hpl : (pre p k y).length ≤ 100000 := by
            have h1 := pre_len hall.out hz32 k (by omega)
            rw [show pre p k 0 = (p.take k).flatten by simp [pre]] at h1
            rw [pre, List.length_append, List.length_take]
            omega
          have hx0' : 0 ≤ x := hr.1
          have hx2 : x ≤ 100000 := by omega
          have hvz1 : (v : Int) < (z : Int) := by omega
          have hO3 := hO2.set (k := v) rfl (x + 1)
          rw [show (bumps z (pre p k y)).set v (x + 1) = bumps z (pre p k (y + 1)) by rw [pre_succ hyl, bumps_snoc, hv, bump, Int.toNat_natCast, hx1]] at hO3
          have hE3 := hE2.setCell (p := ⟨w0.heap.size + 1, v, none⟩) (Nat.le_succ _) (.int .i64 (x + 1))
          clear hr hpl hO2 hE2 hx1 hv
          go_wp2
          go_roundg (m - (y + 1))
          case measure => go_light; omega
          case rel => go_light; exact ⟨y + 1, by omega, rfl, by go_num, hO3, hE3⟩
        · have hz2 : ¬ (y : Int) < (m : Int) := by omega
          obtain rfl : m = y := by omega
          rw [show pre p k m = pre p (k + 1) 0 by rw [pre_row hkp, ← Hm.out]] at hO2
          go_wp2
          go_roundg (n - (k + 1))
          case measure => go_light; omega
          case rel => go_light; exact ⟨k + 1, by omega, rfl, by go_num, hO2, hE2⟩
    · have hz1 : ¬ (k : Int) < (n : Int) := by omega
      obtain rfl : n = k := by omega
      have he : pre p n 0 = p.flatten := by rw [Hx.out, pre_end]
      rw [he] at hO
      go_wp2
      go_ret
      exact ⟨_, _, _, rfl, by rw [repOf, Int.toNat_natCast]; exact hO.base (by omega), hE⟩



end Go.Proofs.Ytgggbicmmijlnaa
