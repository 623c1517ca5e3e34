/- OrbitsOf of both. Conditions: none. -/
import Derived.Test.YtjlfngnmmmaefaaOrb
namespace Go.Proofs.Ytjlfngnmmmaefaa
open Go.RowKit

def obs (p : List (List Int)) : Nat → List (List Int)
  | 0 => []
  | k + 1 => if gi (orb p k) 0 = (k : Int) then obs p k ++ [orb p k] else obs p k
theorem obs_yes {p : List (List Int)} {k : Nat} (h : gi (orb p k) 0 = (k : Int)) : obs p (k + 1) = obs p k ++ [orb p k] := by rw [obs, if_pos h]
theorem obs_no {p : List (List Int)} {k : Nat} (h : ¬ gi (orb p k) 0 = (k : Int)) : obs p (k + 1) = obs p k := by rw [obs, if_neg h]
theorem obs_len (p : List (List Int)) (k : Nat) : (obs p k).length ≤ k := by
  induction k with
  | zero => exact Nat.le_refl _
  | succ k ih => rw [obs]; split <;> (try simp) <;> omega
theorem obs_rows {p : List (List Int)} {k : Nat} : ∀ x, x ∈ obs p k → x.length ≤ p.length := by
  induction k with
  | zero => intro x hx; cases hx
  | succ k ih =>
    intro x hx
    rw [obs] at hx
    split at hx
    · rcases List.mem_append.1 hx with h | h
      · exact ih x h
      · rw [List.mem_singleton.1 h]; exact orb_len p k
    · exact ih x hx
noncomputable def osM (z : Int) (p : List (List Int)) : List (List Int) := if pb (GrpOk z p) then obs p z.toNat else []
theorem osM_no {z : Int} {p : List (List Int)} (h : ¬ GrpOk z p) : osM z p = [] := by rw [osM, pb_false h]; rfl
theorem osM_yes {z : Nat} {p : List (List Int)} (h : GrpOk (z : Int) p) : osM (z : Int) p = obs p z := by rw [osM, pb_true h]; rfl
theorem osM_tot (z : Int) (p : List (List Int)) : tot (osM z p) ≤ 1048576 := by
  rw [osM]
  split
  · rename_i h0
    have h := pb_iff.1 h0
    have h1 := tot_le (p := obs p z.toNat) (k := 720) (fun x hx => Nat.le_trans (obs_rows x hx) h.2.1.2)
    have h2 := obs_len p z.toNat
    have h3 := Nat.mul_le_mul_right 720 (show (obs p z.toNat).length ≤ 32 by have := h.1; omega)
    omega
  · simp [tot]

set_option maxRecDepth 100000 in
set_option maxHeartbeats 1600000 in
theorem implOrs (z : Int) (a : Option Addr) (n c : Nat) (p : List (List Int)) (w : World) (hx : RdR w a n c p) (_ : p.length + tot p ≤ 1048576) (lo : -9223372036854775808 ≤ z) (hi : z ≤ 9223372036854775807) :
    Calls Try.prog 23 #[.agg #[.int .i64 z, .slice a n c]] w (RetR w (osM z p)) := by
  have Hl := Lib.hid hx.len
  have hEW : Ext w (w.alloc (.cells #[.int .i64 z, .slice a n c] 29)) := (Ext.refl _).alloc _
  have hB : Bx (w.alloc (.cells #[.int .i64 z, .slice a n c] 29)) w.heap.size z a n c := ⟨(World.cell?_alloc_at _ _ _ _ rfl).trans rfl, (World.cell?_alloc_at _ _ _ _ rfl).trans rfl⟩
  go_enter Try.func23, Try.ntmps23
  go_wp2_with fail
  refine (validGroup_any z a n c p _ (hx.ext hEW) lo hi).mono ?_
  rintro e w2 ⟨rfl, hE⟩
  have hEw := hEW.trans hE
  have HB := Lib.hid (hB.ext hE)
  obtain ⟨p0, p1⟩ := hB.ext hE
  rcases pbc (GrpOk z p) with ⟨hb, Hb⟩ | ⟨hb, Hb⟩
  · rw [hb]
    clear hb hB hE hEW
    have hz1 : 1 ≤ z := Hb.out.1.1
    have hz2 : z ≤ 32 := Hb.out.1.2
    obtain ⟨y, rfl⟩ := Int.eq_ofNat_of_zero_le (show 0 ≤ z by omega)
    go_wp2
    go_loopg [3, 4] y (fun g s i wr => ∃ (k m : Nat) (ad : Option Addr) (d : Nat) (rs : List Row), k ≤ y ∧ m ≤ k ∧ g = y - k ∧ i = .int .i64 k ∧ s = .slice ad m d ∧ OwnR wr w2.heap.size ad m d (obs p k) rs ∧ Ext w2 wr)
    case atStart => exact ⟨0, 0, _, 0, [], Nat.zero_le _, Nat.le_refl _, rfl, rfl, rfl, OwnR.nil_ _ _, Ext.refl _⟩
    case round =>
      clear p0 p1
      obtain ⟨k, m, ad, d, rs, hk, hm, rfl, rfl, rfl, hO, hE⟩ := hrel
      obtain ⟨p0, p1⟩ := HB.out.ext hE
      by_cases hlt : k < y
      · have hg : (k : Int) < (y : Int) := by omega
        go_wp2_with fail
        refine (orbitOf_any _ a n c p k _ (hx.ext (hEw.trans hE)) (Hb.out.below (by omega)) (by have h1 := Hl.out; have h2 := Hb.out.2.1.2; omega)).mono ?_
        rintro e w4 ⟨a4, n4, c4, rfl, hO4, hE4⟩
        have hE5 := hE.trans hE4
        have hn4 : 0 < n4 := by rw [hO4.len]; exact orb_ne Hb.out.2.1.1
        have hzn4 : (0 : Int) < (n4 : Int) := by omega
        have hl4 := hO4.rdI.le
        have hm4 := hO4.rdI.max
        obtain ⟨b4, o4, rfl, q4⟩ := hO4.rdI.gi hn4
        rw [Nat.add_zero] at q4
        have hR := hO.ext hE4
        have hsz := hE5.size
        have hyg : ∀ g, blk (some (⟨b4, o4, none⟩ : Addr)) = some g → ¬ OwnR.fp ad rs g := fun g hg hf => by have h1 := (hO4.lt hg).1; have h2 := (hO.lt hf).2; omega
        have hO5 := hO4.base (B' := w2.heap.size) hE.size
        clear hO hO4 p0 p1
        by_cases he : gi (orb p k) 0 = (k : Int)
        · have heb : (gi (orb p k) 0 == (k : Int)) = true := by simp [he]
          have HN := Lib.hid (obs_yes he)
          clear he
          go_wp2_with (at_builtin; refine app_S rfl _ _ rfl hR hsz hO5 hyg rfl (by omega) rfl rfl ?_; intro a' c' w3 hrows honly hmv)
          have hE6 := hE5.app hR.top honly (Nat.le_refl _)
          rw [← HN.out] at hrows
          clear honly hmv hR
          go_wp2
          go_roundg (y - (k + 1))
          case measure => go_light; omega
          case rel => go_light; exact ⟨k + 1, m + 1, a', c', _, by omega, by omega, rfl, by go_num, rfl, hrows, hE6⟩
        · have heb : (gi (orb p k) 0 == (k : Int)) = false := by simp [he]
          have HN := Lib.hid (obs_no he)
          clear he
          rw [← HN.out] at hR
          go_wp2
          go_roundg (y - (k + 1))
          case measure => go_light; omega
          case rel => go_light; exact ⟨k + 1, m, ad, d, rs, by omega, by omega, rfl, by go_num, rfl, hR, hE5⟩
      · have hg : ¬ (k : Int) < (y : Int) := by omega
        obtain rfl : y = k := by omega
        rw [← osM_yes Hb.out] at hO
        have hsw := hEw.size
        go_wp2
        go_ret
        exact ⟨_, _, _, _, rfl, hO.base hsw, hEw.trans hE⟩
  · rw [hb]
    go_wp2
    go_ret
    exact ⟨_, _, _, [], rfl, by rw [osM_no Hb.out]; exact OwnR.nil_ _ _, hEw⟩

set_option maxRecDepth 100000 in
set_option maxHeartbeats 1600000 in
theorem specOrs (z : Int) (a : Option Addr) (n c : Nat) (p : List (List Int)) (w : World) (hx : RdR w a n c p) (_ : p.length + tot p ≤ 1048576) (lo : -9223372036854775808 ≤ z) (hi : z ≤ 9223372036854775807) :
    Calls Try.prog 22 #[.agg #[.int .i64 z, .slice a n c]] w (RetR w (osM z p)) := by
  have Hl := Lib.hid hx.len
  have hEW : Ext w (w.alloc (.cells #[.int .i64 z, .slice a n c] 29)) := (Ext.refl _).alloc _
  have hB : Bx (w.alloc (.cells #[.int .i64 z, .slice a n c] 29)) w.heap.size z a n c := ⟨(World.cell?_alloc_at _ _ _ _ rfl).trans rfl, (World.cell?_alloc_at _ _ _ _ rfl).trans rfl⟩
  go_enter Try.func22, Try.ntmps22
  go_wp2_with fail
  refine (l05Ok_any _ z a n c p _ hB (hx.ext hEW) lo hi).mono ?_
  rintro e w2 ⟨rfl, hE⟩
  have hEw := hEW.trans hE
  have HB := Lib.hid (hB.ext hE)
  obtain ⟨p0, p1⟩ := hB.ext hE
  rcases pbc (GrpOk z p) with ⟨hb, Hb⟩ | ⟨hb, Hb⟩
  · rw [hb]
    clear hb hB hE hEW
    have hz1 : 1 ≤ z := Hb.out.1.1
    have hz2 : z ≤ 32 := Hb.out.1.2
    obtain ⟨y, rfl⟩ := Int.eq_ofNat_of_zero_le (show 0 ≤ z by omega)
    have H0 := OwnR.empty w2
    go_wp2
    go_loopg [3, 4] y (fun g s i wr => ∃ (k m : Nat) (ad : Option Addr) (d : Nat) (rs : List Row), k ≤ y ∧ m ≤ k ∧ g = y - k ∧ i = .int .i64 k ∧ s = .slice ad m d ∧ OwnR wr w2.heap.size ad m d (obs p k) rs ∧ Ext w2 wr)
    case atStart => exact ⟨0, 0, _, 0, [], Nat.zero_le _, Nat.le_refl _, rfl, rfl, rfl, H0, (Ext.refl _).alloc _⟩
    case round =>
      clear p0 p1 H0
      obtain ⟨k, m, ad, d, rs, hk, hm, rfl, rfl, rfl, hO, hE⟩ := hrel
      obtain ⟨p0, p1⟩ := HB.out.ext hE
      by_cases hlt : k < y
      · have hg : (k : Int) < (y : Int) := by omega
        go_wp2_with fail
        refine (l05Orbit_any _ _ a n c p k _ (HB.out.ext hE) (hx.ext (hEw.trans hE)) (Hb.out.below (by omega)) (by have h1 := Hl.out; have h2 := Hb.out.2.1.2; omega)).mono ?_
        rintro e w4 ⟨a4, n4, c4, rfl, hO4, hE4⟩
        have hE5 := hE.trans hE4
        have hn4 : 0 < n4 := by rw [hO4.len]; exact orb_ne Hb.out.2.1.1
        have hzn4 : (0 : Int) < (n4 : Int) := by omega
        have hl4 := hO4.rdI.le
        have hm4 := hO4.rdI.max
        obtain ⟨b4, o4, rfl, q4⟩ := hO4.rdI.gi hn4
        rw [Nat.add_zero] at q4
        have hR := hO.ext hE4
        have hsz := hE5.size
        have hyg : ∀ g, blk (some (⟨b4, o4, none⟩ : Addr)) = some g → ¬ OwnR.fp ad rs g := fun g hg hf => by have h1 := (hO4.lt hg).1; have h2 := (hO.lt hf).2; omega
        have hO5 := hO4.base (B' := w2.heap.size) hE.size
        clear hO hO4 p0 p1
        by_cases he : gi (orb p k) 0 = (k : Int)
        · have heb : (gi (orb p k) 0 == (k : Int)) = true := by simp [he]
          have HN := Lib.hid (obs_yes he)
          clear he
          go_wp2_with (at_builtin; refine app_S rfl _ _ rfl hR hsz hO5 hyg rfl (by omega) rfl rfl ?_; intro a' c' w3 hrows honly hmv)
          have hE6 := hE5.app hR.top honly (Nat.le_refl _)
          rw [← HN.out] at hrows
          clear honly hmv hR
          go_wp2
          go_roundg (y - (k + 1))
          case measure => go_light; omega
          case rel => go_light; exact ⟨k + 1, m + 1, a', c', _, by omega, by omega, rfl, by go_num, rfl, hrows, hE6⟩
        · have heb : (gi (orb p k) 0 == (k : Int)) = false := by simp [he]
          have HN := Lib.hid (obs_no he)
          clear he
          rw [← HN.out] at hR
          go_wp2
          go_roundg (y - (k + 1))
          case measure => go_light; omega
          case rel => go_light; exact ⟨k + 1, m, ad, d, rs, by omega, by omega, rfl, by go_num, rfl, hR, hE5⟩
      · have hg : ¬ (k : Int) < (y : Int) := by omega
        obtain rfl : y = k := by omega
        rw [← osM_yes Hb.out] at hO
        have hsw := hEw.size
        go_wp2
        go_ret
        exact ⟨_, _, _, _, rfl, hO.base hsw, hEw.trans hE⟩
  · rw [hb]
    go_wp2
    go_ret
    exact ⟨_, _, _, [], rfl, by rw [osM_no Hb.out]; exact OwnR.nil_ _ _, hEw⟩
end Go.Proofs.Ytjlfngnmmmaefaa
