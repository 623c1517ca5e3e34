/- BurnsideCount of both. Conditions: none. -/
import Derived.Test.YtjlfngnmmmaefaaVg
import Derived.Test.YtjlfngnmmmaefaaCycI
import Derived.Test.YtjlfngnmmmaefaaSl
namespace Go.Proofs.Ytjlfngnmmmaefaa
open Go.RowKit

/-! ### plain -/
theorem pow_le_pow {c j k : Nat} (h : j ≤ k) (hk : c ^ k ≤ 1000000000000) : c ^ j ≤ 1000000000000 := by
  rcases Nat.eq_zero_or_pos c with rfl | hc
  · rcases Nat.eq_zero_or_pos j with rfl | hj
    · simp
    · rw [Nat.zero_pow hj]; omega
  · exact Nat.le_trans (Nat.pow_le_pow_right hc h) hk
def burn (c : Nat) (p : List (List Int)) : Nat := (p.map (fun q => c ^ (cyc q).length)).sum
theorem burn_snoc {c : Nat} {p : List (List Int)} {k : Nat} (hk : k < p.length) : burn c (p.take (k + 1)) = burn c (p.take k) + c ^ (cyc (gr p k)).length := by
  rw [burn, List.take_add_one, gr_get hk, List.map_append, List.sum_append]; simp [burn]
def BnOk (z x : Int) : Prop := (0 ≤ x ∧ x ≤ 32) ∧ x.toNat ^ z.toNat ≤ 1000000000000
noncomputable def bnV (z : Int) (p : List (List Int)) (x : Int) : Int := if pb (GrpOk z p ∧ BnOk z x) then ((burn x.toNat p / p.length : Nat) : Int) else 0
noncomputable def bnC (z : Int) (p : List (List Int)) (x : Int) : Int := if pb (GrpOk z p) then (if pb (BnOk z x) then 0 else 2) else 1
theorem bn_no {z : Int} {p : List (List Int)} {x : Int} (h : ¬ GrpOk z p) : Ending.returned (.tuple #[.int .i64 0, .int .i64 1]) = .returned (.tuple #[.int .i64 (bnV z p x), .int .i64 (bnC z p x)]) := by
  rw [bnV, bnC, pb_false (fun h' => h h'.1), pb_false h]; rfl
theorem bn_out {z : Int} {p : List (List Int)} {x : Int} (h0 : GrpOk z p) (h : ¬ BnOk z x) : Ending.returned (.tuple #[.int .i64 0, .int .i64 2]) = .returned (.tuple #[.int .i64 (bnV z p x), .int .i64 (bnC z p x)]) := by
  rw [bnV, bnC, pb_false (fun h' => h h'.2), pb_true h0, pb_false h]; rfl
theorem bn_yes {z : Int} {p : List (List Int)} {x : Int} {v : Int} (h0 : GrpOk z p) (h : BnOk z x) (hv : v = ((burn x.toNat p / p.length : Nat) : Int)) : Ending.returned (.tuple #[.int .i64 v, .int .i64 0]) = .returned (.tuple #[.int .i64 (bnV z p x), .int .i64 (bnC z p x)]) := by
  rw [bnV, bnC, pb_true ⟨h0, h⟩, pb_true h0, pb_true h, hv]; rfl
theorem mul_pow {F c j : Nat} (h : F = c ^ j) : F * c = c ^ (j + 1) := by rw [h, Nat.pow_succ]
theorem mul_bd {F c : Nat} (h1 : F ≤ 1000000000000) (h2 : c ≤ 32) : F * c ≤ 32000000000000 := by
  have := Nat.mul_le_mul h1 h2; omega

set_option maxHeartbeats 800000 in
theorem powerUpTo_any (c z : Nat) (w : World) (hc : c ≤ 32) (hc2 : 2 ≤ c) (hz : z ≤ 32) :
    Calls Try.prog 76 #[.int .i64 c, .int .i64 z, .int .i64 1000000000000] w fun e w' => ∃ F : Nat, e = .returned (.int .i64 F) ∧ w = w' ∧ Hid (F ≤ 32000000000000 ∧ (1000000000000 < F ↔ 1000000000000 < c ^ z)) := by
  go_enter Try.func76, Try.ntmps76
  go_wp2
  go_loopg [1, 7] z (fun g e f wr => ∃ (j F : Nat), j ≤ z ∧ g = z - j ∧ e = .int .i64 ((z : Int) - j) ∧ f = .int .i64 F ∧ w = wr ∧ F ≤ 32000000000000 ∧ Hid (F = c ^ j))
  case atStart => exact ⟨0, 1, Nat.zero_le _, rfl, by go_num, rfl, rfl, by omega, rfl⟩
  case round =>
    obtain ⟨j, F, hj, rfl, rfl, rfl, rfl, hF, HF⟩ := hrel
    by_cases hlt : j < z
    · have hg : (0 : Int) < (z : Int) - (j : Int) := by omega
      by_cases hle : F ≤ 1000000000000
      · have hgl : (F : Int) ≤ 1000000000000 := by omega
        obtain ⟨G, hG, HG, hGb⟩ : ∃ G : Nat, (F : Int) * (c : Int) = (G : Int) ∧ Hid (G = c ^ (j + 1)) ∧ G ≤ 32000000000000 := ⟨F * c, by simp, Lib.hid (mul_pow HF.out), mul_bd hle hc⟩
        go_wp2
        go_roundg (z - (j + 1))
        case measure => go_light; omega
        case rel => go_light; exact ⟨j + 1, G, by omega, rfl, by go_num, by go_num, rfl, hGb, HG⟩
      · have hgl : ¬ (F : Int) ≤ 1000000000000 := by omega
        have HR : Hid (F ≤ 32000000000000 ∧ (1000000000000 < F ↔ 1000000000000 < c ^ z)) := Lib.hid ⟨hF, fun _ => Classical.byContradiction fun h => by
          have h1 := pow_le_pow (show j ≤ z by omega) (show c ^ z ≤ 1000000000000 by omega)
          rw [← HF.out] at h1; omega, fun _ => by omega⟩
        go_wp2
        go_ret
        exact ⟨F, rfl, rfl, HR⟩
    · obtain rfl : z = j := by omega
      have hg : ¬ (0 : Int) < (z : Int) - (z : Int) := by omega
      have HR : Hid (F ≤ 32000000000000 ∧ (1000000000000 < F ↔ 1000000000000 < c ^ z)) := Lib.hid ⟨hF, by rw [← HF.out]⟩
      go_wp2
      go_ret
      exact ⟨F, rfl, rfl, HR⟩

set_option maxHeartbeats 800000 in
theorem l03Power_any (c k : Nat) (w : World) (hk : k ≤ 32) (hc : c ≤ 32) (hle : c ^ k ≤ 1000000000000) :
    Calls Try.prog 74 #[.int .i64 c, .int .i64 k] w fun e w' => ∃ F : Nat, e = .returned (.int .i64 F) ∧ w = w' ∧ F ≤ 1000000000000 ∧ Hid (F = c ^ k) := by
  have Hle := Lib.hid hle
  clear hle
  go_enter Try.func74, Try.ntmps74
  go_wp2
  go_loopg [1, 5] k (fun g e f wr => ∃ (j F : Nat), j ≤ k ∧ g = k - j ∧ e = .int .i64 ((k : Int) - j) ∧ f = .int .i64 F ∧ w = wr ∧ F ≤ 1000000000000 ∧ Hid (F = c ^ j))
  case atStart => exact ⟨0, 1, Nat.zero_le _, rfl, by go_num, rfl, rfl, by omega, rfl⟩
  case round =>
    obtain ⟨j, F, hj, rfl, rfl, rfl, rfl, hF, HF⟩ := hrel
    by_cases hlt : j < k
    · have hg : (0 : Int) < (k : Int) - (j : Int) := by omega
      obtain ⟨G, hG, HG, hGb⟩ : ∃ G : Nat, (F : Int) * (c : Int) = (G : Int) ∧ Hid (G = c ^ (j + 1)) ∧ G ≤ 1000000000000 := ⟨F * c, by simp, Lib.hid (mul_pow HF.out), by rw [mul_pow HF.out]; exact pow_le_pow (by omega) Hle.out⟩
      go_wp2
      go_roundg (k - (j + 1))
      case measure => go_light; omega
      case rel => go_light; exact ⟨j + 1, G, by omega, rfl, by go_num, by go_num, rfl, hGb, HG⟩
    · obtain rfl : k = j := by omega
      have hg : ¬ (0 : Int) < (k : Int) - (k : Int) := by omega
      go_wp2
      go_ret
      exact ⟨F, rfl, rfl, hF, HF⟩

set_option maxRecDepth 100000 in
set_option maxHeartbeats 3200000 in
theorem implBur (z : Int) (a : Option Addr) (n c : Nat) (p : List (List Int)) (x : Int) (w : World) (hx : RdR w a n c p) (_ : p.length + tot p ≤ 1048576) (lo : -9223372036854775808 ≤ z) (hi : z ≤ 9223372036854775807) (_ : -9223372036854775808 ≤ x) (_ : x ≤ 9223372036854775807) :
    Calls Try.prog 44 #[.agg #[.int .i64 z, .slice a n c], .int .i64 x] w fun e w' => e = .returned (.tuple #[.int .i64 (bnV z p x), .int .i64 (bnC z p x)]) ∧ Ext w w' := by
  have hb1 := hx.le
  have hb2 := hx.max
  have Hl := Lib.hid hx.len
  have hEW : Ext w (w.alloc (.cells #[.int .i64 z, .slice a n c] 29)) := (Ext.refl _).alloc _
  have hB : Bx (w.alloc (.cells #[.int .i64 z, .slice a n c] 29)) w.heap.size z a n c := ⟨(World.cell?_alloc_at _ _ _ _ rfl).trans rfl, (World.cell?_alloc_at _ _ _ _ rfl).trans rfl⟩
  have HB := Lib.hid hB
  clear hB
  go_enter Try.func44, Try.ntmps44
  go_wp2_with fail
  refine (validGroup_any z a n c p _ (hx.ext hEW) lo hi).mono ?_
  rintro e w2 ⟨rfl, hE⟩
  have hEw := hEW.trans hE
  obtain ⟨p0, p1⟩ := HB.out.ext hE
  rcases pbc (GrpOk z p) with ⟨hb, Hb⟩ | ⟨hb, Hb⟩
  · rw [hb]
    clear hb
    have hz1 : 1 ≤ z := Hb.out.1.1
    have hz2 : z ≤ 32 := Hb.out.1.2
    have hn1 : 1 ≤ n := by rw [Hl.out]; exact Hb.out.2.1.1
    have hn2 : n ≤ 720 := by rw [Hl.out]; exact Hb.out.2.1.2
    rcases Classical.em (0 ≤ x ∧ x ≤ 32) with h | h
    · have H := Lib.hid h
      clear h
      obtain ⟨y, rfl⟩ := Int.eq_ofNat_of_zero_le H.out.1
      obtain ⟨z', rfl⟩ := Int.eq_ofNat_of_zero_le (show 0 ≤ z by omega)
      have hy : y ≤ 32 := by have := H.out.2; omega
      have HN : Hid (y ^ z' ≤ 1000000000000 → BnOk (z' : Int) (y : Int)) := Lib.hid (fun h => ⟨H.out, h⟩)
      rcases Nat.lt_or_ge 1 y with hy1 | hy1
      case' inl =>
        have hyg : (1 : Int) < (y : Int) := by omega
        go_wp2_with fail
        refine (within_any _ _ _ true (decide_eq_true H.out) _).mono ?_
        rintro e w3 ⟨rfl, rfl⟩
        go_wp2_with fail
        refine (powerUpTo_any y z' _ hy (by omega) (by omega)).mono ?_
        rintro e w3 ⟨F, rfl, rfl, HF⟩
        by_cases hF : 1000000000000 < F
        · have hFg : (1000000000000 : Int) < (F : Int) := by omega
          have HN : Hid (¬ BnOk (z' : Int) (y : Int)) := Lib.hid (fun h => by have h1 := HF.out.2.1 hF; have h2 : y ^ z' ≤ 1000000000000 := h.2; omega)
          go_wp2
          go_ret2
          exact ⟨bn_out Hb.out HN.out, hEw⟩
        have hFg : ¬ (1000000000000 : Int) < (F : Int) := by omega
        have hFb : F ≤ 32000000000000 := HF.out.1
        have HP : Hid (y ^ z' ≤ 1000000000000) := Lib.hid (Classical.byContradiction fun h => hF (HF.out.2.2 (by omega)))
        clear HF
      case' inr =>
        have hyg : ¬ (1 : Int) < (y : Int) := by omega
        have HP : Hid (y ^ z' ≤ 1000000000000) := Lib.hid (by
          have : y ^ z' ≤ 1 ^ z' := Nat.pow_le_pow_left (by omega) _
          rw [Nat.one_pow] at this; omega)
        go_wp2_with fail
        refine (within_any _ _ _ true (decide_eq_true H.out) _).mono ?_
        rintro e w3 ⟨rfl, rfl⟩
      all_goals (
        go_wp2
        go_loopg [6, 30] n (fun g s i wr => ∃ (k S : Nat), k ≤ n ∧ g = n - k ∧ i = .int .i64 k ∧ s = .int .i64 S ∧ S ≤ k * 1000000000000 ∧ Hid (S = burn y (p.take k)) ∧ Ext w2 wr)
        case atStart => exact ⟨0, 0, Nat.zero_le _, rfl, rfl, rfl, Nat.zero_le _, rfl, Ext.refl _⟩
        case round =>
          clear p0 p1
          obtain ⟨k, S, hk, rfl, rfl, rfl, hS, HS, hEr⟩ := hrel
          obtain ⟨p0, p1⟩ := HB.out.ext (hE.trans hEr)
          by_cases hlt : k < n
          · have hz : (k : Int) < (n : Int) := by omega
            obtain ⟨b, o, ai, ni, ci, rfl, hc, hrow⟩ := (hx.ext (hEw.trans hEr)).gr hlt
            have Hq : Hid (ni = z' ∧ IsPerm (gr p k)) := Lib.hid (by
              have h1 := Hb.out.2.2.1 _ (List.mem_of_getElem? (gr_get (by rw [← Hl.out]; exact hlt)))
              have h2 := hrow.len
              exact ⟨by omega, h1.2.2⟩)
            obtain ⟨wo, rfl⟩ : ∃ wo, wo = wr := ⟨_, rfl⟩
            go_wp2_with fail
            refine (cyclesOf_any _ _ _ (gr p k) _ hrow (by have := Hq.out.1; omega) Hq.out.2).mono ?_
            rintro e w4 ⟨a4, m4, c4, rs4, rfl, hO4, hE4⟩
            have hm4 : m4 ≤ z' := by
              have h1 := (cyc_tot Hq.out.2).2
              have h2 := hO4.rd.len
              have h3 := hrow.len
              have h4 := Hq.out.1
              omega
            have Hm : Hid (m4 = (cyc (gr p k)).length) := Lib.hid hO4.rd.len
            have hE5 := hEr.trans hE4
            clear p0 p1 hO4 hrow hc
            go_wp2
            go_loopg [9, 37] m4 (fun g f i wr => ∃ (j F : Nat), j ≤ m4 ∧ g = m4 - j ∧ i = .int .i64 j ∧ f = .int .i64 F ∧ F ≤ 1000000000000 ∧ Hid (F = y ^ j) ∧ w4 = wr)
            case atStart => exact ⟨0, 1, Nat.zero_le _, rfl, rfl, rfl, by omega, rfl, rfl⟩
            case round =>
              obtain ⟨j, F, hj, rfl, rfl, rfl, hFl, HF, rfl⟩ := hrel
              by_cases hlt2 : j < m4
              · have hz2 : (j : Int) < (m4 : Int) := by omega
                obtain ⟨G, hG, HG, hGb⟩ : ∃ G : Nat, (F : Int) * (y : Int) = (G : Int) ∧ Hid (G = y ^ (j + 1)) ∧ G ≤ 1000000000000 := ⟨F * y, by simp, Lib.hid (mul_pow HF.out), by rw [mul_pow HF.out]; exact pow_le_pow (by omega) HP.out⟩
                go_wp2
                go_roundg (m4 - (j + 1))
                case measure => go_light; omega
                case rel => go_light; exact ⟨j + 1, G, by omega, rfl, by go_num, by go_num, hGb, HG, rfl⟩
              · have hz2 : ¬ (j : Int) < (m4 : Int) := by omega
                obtain rfl : m4 = j := by omega
                have HS2 : Hid (S + F = burn y (p.take (k + 1))) := Lib.hid (by rw [burn_snoc (by rw [← Hl.out]; exact hlt), HS.out, HF.out, Hm.out])
                go_wp2
                go_roundg (n - (k + 1))
                case measure => go_light; omega
                case rel => go_light; exact ⟨k + 1, S + F, by omega, rfl, by go_num, by go_num, by omega, HS2, hE5⟩
          · have hz : ¬ (k : Int) < (n : Int) := by omega
            obtain rfl : n = k := by omega
            obtain ⟨q, hq⟩ : ∃ q, S / n = q := ⟨_, rfl⟩
            have hqS : q ≤ S := by rw [← hq]; exact Nat.div_le_self _ _
            have hnz : ¬ n = 0 := by omega
            have hnb : ((n : Int) == 0) = false := by simp; omega
            have hq1 : (S : Int).tdiv (n : Int) = (q : Int) := by rw [← hq]; rfl
            have hq2 : (S : Int) / (n : Int) = (q : Int) := by rw [← hq]; rfl
            have HV : Hid ((q : Int) = ((burn (y : Int).toNat p / p.length : Nat) : Int)) := Lib.hid (by
              rw [← hq, HS.out, List.take_of_length_le (by have := Hl.out; omega), Hl.out]; rfl)
            clear hq
            go_wp2_with fail
            refine (sizeR_any _ _ _ _).mono ?_
            rintro e w5 ⟨rfl, rfl⟩
            go_wp2
            go_ret2
            exact ⟨bn_yes Hb.out (HN.out HP.out) HV.out, hEw.trans hEr⟩)
    · have H := Lib.hid h
      clear h
      go_wp2_with fail
      refine (within_any _ _ _ false (decide_eq_false H.out) _).mono ?_
      rintro e w3 ⟨rfl, rfl⟩
      go_wp2
      go_ret2
      exact ⟨bn_out Hb.out (fun h => H.out h.1), hEw⟩
  · rw [hb]
    go_wp2
    go_ret2
    exact ⟨bn_no Hb.out, hEw⟩

set_option maxRecDepth 100000 in
set_option maxHeartbeats 3200000 in
theorem specBur (z : Int) (a : Option Addr) (n c : Nat) (p : List (List Int)) (x : Int) (w : World) (hx : RdR w a n c p) (_ : p.length + tot p ≤ 1048576) (lo : -9223372036854775808 ≤ z) (hi : z ≤ 9223372036854775807) (_ : -9223372036854775808 ≤ x) (_ : x ≤ 9223372036854775807) :
    Calls Try.prog 43 #[.agg #[.int .i64 z, .slice a n c], .int .i64 x] w fun e w' => e = .returned (.tuple #[.int .i64 (bnV z p x), .int .i64 (bnC z p x)]) ∧ Ext w w' := by
  have hb1 := hx.le
  have hb2 := hx.max
  have Hl := Lib.hid hx.len
  have hEW : Ext w (w.alloc (.cells #[.int .i64 z, .slice a n c] 29)) := (Ext.refl _).alloc _
  have hB : Bx (w.alloc (.cells #[.int .i64 z, .slice a n c] 29)) w.heap.size z a n c := ⟨(World.cell?_alloc_at _ _ _ _ rfl).trans rfl, (World.cell?_alloc_at _ _ _ _ rfl).trans rfl⟩
  have HB := Lib.hid hB
  go_enter Try.func43, Try.ntmps43
  go_wp2_with fail
  refine (l05Ok_any _ z a n c p _ hB (hx.ext hEW) lo hi).mono ?_
  rintro e w2 ⟨rfl, hE⟩
  have hEw := hEW.trans hE
  obtain ⟨p0, p1⟩ := hB.ext hE
  clear hB
  rcases pbc (GrpOk z p) with ⟨hb, Hb⟩ | ⟨hb, Hb⟩
  · rw [hb]
    clear hb
    have hz1 : 1 ≤ z := Hb.out.1.1
    have hz2 : z ≤ 32 := Hb.out.1.2
    have hn1 : 1 ≤ n := by rw [Hl.out]; exact Hb.out.2.1.1
    have hn2 : n ≤ 720 := by rw [Hl.out]; exact Hb.out.2.1.2
    rcases Classical.em (0 ≤ x ∧ x ≤ 32) with h | h
    · have H := Lib.hid h
      clear h
      obtain ⟨y, rfl⟩ := Int.eq_ofNat_of_zero_le H.out.1
      obtain ⟨z', rfl⟩ := Int.eq_ofNat_of_zero_le (show 0 ≤ z by omega)
      have hy : y ≤ 32 := by have := H.out.2; omega
      go_wp2_with fail
      refine (l00In_any _ _ _ true (decide_eq_true H.out) _).mono ?_
      rintro e w3 ⟨rfl, rfl⟩
      go_wp2
      go_loopg [6, 7] z' (fun g f i wr => ∃ (j F : Nat), j ≤ z' ∧ g = z' - j ∧ i = .int .i64 j ∧ f = .int .i64 F ∧ F ≤ 1000000000000 ∧ Hid (F = y ^ j) ∧ w2 = wr)
      case atStart => exact ⟨0, 1, Nat.zero_le _, rfl, rfl, rfl, by omega, rfl, rfl⟩
      case round =>
        obtain ⟨j, F, hj, rfl, rfl, rfl, hF, HF, rfl⟩ := hrel
        by_cases hlt : j < z'
        · have hg : (j : Int) < (z' : Int) := by omega
          obtain ⟨G, hG, HG, hGb⟩ : ∃ G : Nat, (F : Int) * (y : Int) = (G : Int) ∧ Hid (G = y ^ (j + 1)) ∧ G ≤ 32000000000000 := ⟨F * y, by simp, Lib.hid (mul_pow HF.out), mul_bd hF hy⟩
          by_cases hle : G ≤ 1000000000000
          · have hgl : ¬ (1000000000000 : Int) < (G : Int) := by omega
            go_wp2
            go_roundg (z' - (j + 1))
            case measure => go_light; omega
            case rel => go_light; exact ⟨j + 1, G, by omega, rfl, by go_num, by go_num, hle, HG, rfl⟩
          · have hgl : (1000000000000 : Int) < (G : Int) := by omega
            have HN : Hid (¬ BnOk (z' : Int) (y : Int)) := Lib.hid (fun h => by
              have h1 := pow_le_pow (show j + 1 ≤ z' by omega) (show y ^ z' ≤ 1000000000000 from h.2)
              rw [← HG.out] at h1; omega)
            go_wp2
            go_ret2
            exact ⟨bn_out Hb.out HN.out, hEw⟩
        · have hg : ¬ (j : Int) < (z' : Int) := by omega
          obtain rfl : z' = j := by omega
          have HP : Hid (y ^ z' ≤ 1000000000000) := Lib.hid (by rw [← HF.out]; exact hF)
          have HN : Hid (BnOk (z' : Int) (y : Int)) := Lib.hid ⟨H.out, HP.out⟩
          clear HF
          go_wp2
          go_loopg [8, 9] n (fun g s i wr => ∃ (k S : Nat), k ≤ n ∧ g = n - k ∧ i = .int .i64 k ∧ s = .int .i64 S ∧ S ≤ k * 1000000000000 ∧ Hid (S = burn y (p.take k)) ∧ Ext w2 wr)
          case atStart => exact ⟨0, 0, Nat.zero_le _, rfl, rfl, rfl, Nat.zero_le _, rfl, Ext.refl _⟩
          case round =>
            clear p0 p1
            obtain ⟨k, S, hk, rfl, rfl, rfl, hS, HS, hEr⟩ := hrel
            obtain ⟨p0, p1⟩ := HB.out.ext (hE.trans hEr)
            by_cases hlt : k < n
            · have hz : (k : Int) < (n : Int) := by omega
              obtain ⟨b, o, ai, ni, ci, rfl, hc, hrow⟩ := (hx.ext (hEw.trans hEr)).gr hlt
              have Hq : Hid (ni = z' ∧ IsPerm (gr p k)) := Lib.hid (by
                have h1 := Hb.out.2.2.1 _ (List.mem_of_getElem? (gr_get (by rw [← Hl.out]; exact hlt)))
                have h2 := hrow.len
                exact ⟨by omega, h1.2.2⟩)
              go_wp2_with fail
              refine (l04Cycles_any _ _ _ (gr p k) _ hrow (by have := Hq.out.1; omega) Hq.out.2).mono ?_
              rintro e w4 ⟨a4, m4, c4, rs4, rfl, hO4, hE4⟩
              have hm4 : m4 ≤ z' := by
                have h1 := (cyc_tot Hq.out.2).2
                have h2 := hO4.rd.len
                have h3 := hrow.len
                have h4 := Hq.out.1
                omega
              have Hm : Hid (m4 = (cyc (gr p k)).length) := Lib.hid hO4.rd.len
              have hE5 := hEr.trans hE4
              clear p0 p1 hO4 hrow hc
              go_wp2_with fail
              refine (l03Power_any y m4 _ (by omega) hy (pow_le_pow hm4 HP.out)).mono ?_
              rintro e w5 ⟨F, rfl, rfl, hF, HF⟩
              have HS2 : Hid (S + F = burn y (p.take (k + 1))) := Lib.hid (by rw [burn_snoc (by rw [← Hl.out]; exact hlt), HS.out, HF.out, Hm.out])
              go_wp2
              go_roundg (n - (k + 1))
              case measure => go_light; omega
              case rel => go_light; exact ⟨k + 1, S + F, by omega, rfl, by go_num, by go_num, by omega, HS2, hE5⟩
            · have hz : ¬ (k : Int) < (n : Int) := by omega
              obtain rfl : n = k := by omega
              obtain ⟨q, hq⟩ : ∃ q, S / n = q := ⟨_, rfl⟩
              have hqS : q ≤ S := by rw [← hq]; exact Nat.div_le_self _ _
              have hnz : ¬ n = 0 := by omega
              have hnb : ((n : Int) == 0) = false := by simp; omega
              have hq1 : (S : Int).tdiv (n : Int) = (q : Int) := by rw [← hq]; rfl
              have hq2 : (S : Int) / (n : Int) = (q : Int) := by rw [← hq]; rfl
              have HV : Hid ((q : Int) = ((burn (y : Int).toNat p / p.length : Nat) : Int)) := Lib.hid (by
                rw [← hq, HS.out, List.take_of_length_le (by have := Hl.out; omega), Hl.out]; rfl)
              clear hq
              go_wp2
              go_ret2
              exact ⟨bn_yes Hb.out HN.out HV.out, hEw.trans hEr⟩
    · have H := Lib.hid h
      clear h
      go_wp2_with fail
      refine (l00In_any _ _ _ false (decide_eq_false H.out) _).mono ?_
      rintro e w3 ⟨rfl, rfl⟩
      go_wp2
      go_ret2
      exact ⟨bn_out Hb.out (fun h => H.out h.1), hEw⟩
  · rw [hb]
    go_wp2
    go_ret2
    exact ⟨bn_no Hb.out, hEw⟩
end Go.Proofs.Ytjlfngnmmmaefaa
