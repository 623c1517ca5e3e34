/- Remainders of polynomials, irreducible ones and fields by the reference. Conditions: none. -/
import Derived.Test.YtgggbicmmijlnaaFlds
import Derived.Test.YtgggbicmmijlnaaFld4
import Derived.Test.YtgggbicmmijlnaaOwnL
namespace Go.Proofs.Ytgggbicmmijlnaa
open Go.RowKit

theorem take_less {z : List Int} {t m : Nat} (ht : t ≤ m) : (z.take m).take t = z.take t := by rw [List.take_take, Nat.min_eq_left ht]
set_option maxRecDepth 100000 in
set_option maxHeartbeats 3200000 in
theorem l03Rest_any (a : Option Addr) (n c : Nat) (x : List Int) (a2 : Option Addr) (m c2 : Nat) (b : List Int) (p : Nat) (w : World) (hx : RdI w a n c x) (hb : RdI w a2 m c2 b) (hxb : Bnd x p) (hbb : Bnd b p) (hp0 : 0 < p) (hp : p ≤ 64) (hm1 : 2 ≤ m) (hmn : m ≤ n + 1) (hn : n ≤ 1000) :
    Calls Try.prog 97 #[.slice a n c, .slice a2 m c2, .int .i64 p] w (RetI w (rest x b p)) := by
  have hb1 := hx.le
  have hb2 := hx.max
  have hb3 := hb.le
  have hb4 := hb.max
  have Hl := Lib.hid hx.len
  have Hm := Lib.hid hb.len
  have HXB := Lib.hid hxb
  have HBB := Lib.hid hbb
  clear hxb hbb
  go_enter Try.func97, Try.ntmps97
  go_wp2_with fail
  refine (l00Own_any a n c x _ hx (by omega)).mono ?_
  rintro e w2 ⟨a7, n7, c7, rfl, hO, hE⟩
  obtain rfl : n7 = n := by rw [hO.len, Hl.out]
  obtain ⟨dg, rfl⟩ : ∃ dg, m = dg + 1 := ⟨m - 1, by omega⟩
  have HR : Hid (restTo b p dg (n7 - dg) x = restTo b p (b.length - 1) (x.length - (b.length - 1)) x) := Lib.hid (by rw [← Hm.out, ← Hl.out]; rfl)
  have e1 : ((dg + 1 : Nat) : Int) - 1 = (dg : Int) := by omega
  go_wp2
  go_loopg [9] (1 * (n7 - dg)) (fun gh ix wr => ∃ (i : Nat) (z : List Int), i ≤ n7 - dg ∧ gh = 1 * i ∧ ix = .int .i64 ((dg : Int) + (i : Int) - 1) ∧ OwnI wr w.heap.size a7 n7 c7 z ∧ Hid (Bnd z p) ∧ Hid (restTo b p dg i z = restTo b p dg (n7 - dg) x) ∧ Ext w wr)
  case atStart => exact ⟨n7 - dg, x, Nat.le_refl _, rfl, by go_num, hO, HXB, Lib.hid rfl, hE⟩
  case round =>
    clear hO hE
    obtain ⟨i, z, hi, rfl, rfl, hO, HZ, HT, hE⟩ := hrel
    have hrd := hO.rdI
    have hc1 := hrd.le
    have hc2 := hrd.max
    cases i with
    | zero =>
      have hb' : ¬ ((dg : Int) ≤ (dg : Int) + ((0 : Nat) : Int) - 1) := by omega
      have hbd : decide ((dg : Int) ≤ (dg : Int) + ((0 : Nat) : Int) - 1) = false := decide_eq_false hb'
      have HT2 : Hid (z = restTo b p dg (n7 - dg) x) := Lib.hid (by have := HT.out; rwa [restTo] at this)
      have HF : Hid (z.take dg = rest x b p) := Lib.hid (by rw [HT2.out, HR.out, rest, ← Hm.out]; rfl)
      have hO0 : OwnI wr w.heap.size a7 n7 c7 (z.take n7) := by rw [List.take_of_length_le (by have := hO.len; omega)]; exact hO
      clear hO hrd
      go_wp2
      go_loopg [7] (1 * (n7 - dg)) (fun gh sv wi => ∃ t : Nat, dg ≤ t ∧ t ≤ n7 ∧ gh = 1 * (t - dg) ∧ sv = .slice a7 t c7 ∧ wi = wr ∧ Hid (OwnI wr w.heap.size a7 t c7 (z.take t)))
      case atStart => exact ⟨n7, by omega, Nat.le_refl _, rfl, rfl, rfl, Lib.hid hO0⟩
      case round =>
        clear hO0
        obtain ⟨t, htd, htn, rfl, rfl, rfl, HOt⟩ := hrel
        by_cases hlt : dg + 1 ≤ t
        · have hzl : ((dg + 1 : Nat) : Int) ≤ (t : Int) := by omega
          have hzl2 : (dg : Int) + 1 ≤ (t : Int) := by omega
          obtain ⟨t', rfl⟩ : ∃ t', t = t' + 1 := ⟨t - 1, by omega⟩
          have e5 : ((t' + 1 : Nat) : Int) - 1 = (t' : Int) := by omega
          have htc : (t' : Int) ≤ (c7 : Int) := by omega
          have HO2 : Hid (OwnI wr w.heap.size a7 t' c7 (z.take t')) := Lib.hid (by
            have := HOt.out.take (m := t') (by omega) (.inl (by omega))
            rwa [take_less (by omega)] at this)
          go_wp2
          go_roundg (1 * (t' - dg))
          case measure => go_light; omega
          case rel => go_light; exact ⟨t', by omega, by omega, rfl, by go_num, rfl, HO2⟩
        · have hzl : ¬ ((dg + 1 : Nat) : Int) ≤ (t : Int) := by omega
          have hzl2 : ¬ (dg : Int) + 1 ≤ (t : Int) := by omega
          obtain rfl : t = dg := by omega
          have hO2 := HOt.out
          rw [HF.out] at hO2
          go_wp2
          go_ret
          exact ⟨_, _, _, rfl, hO2, hE⟩
    | succ i =>
      obtain ⟨kk, hkk⟩ : ∃ kk, kk = dg + i := ⟨_, rfl⟩
      have e2 : (dg : Int) + ((i + 1 : Nat) : Int) - 1 = (kk : Int) := by omega
      rw [e2]
      have hkn : kk < n7 := by omega
      have hzk : (kk : Int) < (n7 : Int) := by omega
      have hzd : (dg : Int) ≤ (kk : Int) := by omega
      have hzd2 : ((dg + 1 : Nat) : Int) - 1 ≤ (kk : Int) := by omega
      have e3 : (kk : Int) - ((dg + 1 : Nat) : Int) + 1 = (i : Int) := by omega
      have e3b : (kk : Int) - ((dg : Int) + 1) + 1 = (i : Int) := by omega
      obtain ⟨g, x0, ha, hB, hcf, hff, Hx0⟩ := hO.at_ (k := kk) hkn
      subst ha
      have Hf := Lib.hid (gi_of Hx0.out)
      obtain ⟨hf0, hf1⟩ := HZ.out kk
      rw [Hf.out] at hf0 hf1
      obtain ⟨f, rfl⟩ := Int.eq_ofNat_of_zero_le hf0
      have HT2 : Hid (restTo b p dg i (restIn b p f i (dg + 1) z) = restTo b p dg (n7 - dg) x) := Lib.hid (by
        have h1 := HT.out
        rw [restTo, ← hkk, Hf.out] at h1
        exact h1)
      have HKK := Lib.hid hkk
      clear hkk hrd e2
      go_wp2
      clear hcf hff
      go_loopg [11] (dg + 1) (fun gh ix wi => ∃ j : Nat, j ≤ dg + 1 ∧ gh = dg + 1 - j ∧ ix = .int .i64 j ∧ OwnI wi w.heap.size (some ⟨g, 0, none⟩) n7 c7 (restIn b p f i j z) ∧ Ext w wi)
      case atStart => exact ⟨0, Nat.zero_le _, rfl, rfl, hO, hE⟩
      case round =>
        clear hO hE
        obtain ⟨j, hj, rfl, rfl, hO, hE⟩ := hrel
        by_cases hlt : j < dg + 1
        · have hzj : (j : Int) < (dg : Int) + 1 := by omega
          have hzj2 : (j : Int) < ((dg + 1 : Nat) : Int) := by omega
          obtain ⟨b2, o2, rfl, hcb⟩ := (hb.ext hE).gi hlt
          have hat : i + j < n7 := by have := HKK.out; omega
          obtain ⟨g', v, hh, hB', hcv, hfv, Hv⟩ := hO.at_ (k := i + j) hat
          cases hh
          have HV := Lib.hid (gi_of Hv.out)
          obtain ⟨hv0, hv1⟩ := (restIn_bnd (f := f) HZ.out i j) (i + j)
          rw [HV.out] at hv0 hv1
          obtain ⟨hg0, hg1⟩ := HBB.out j
          obtain ⟨cb, hcb2⟩ : ∃ cb, gi b j = cb := ⟨_, rfl⟩
          have HCB := Lib.hid hcb2
          rw [hcb2] at hcb hg0 hg1
          clear hcb2
          obtain ⟨cb, rfl⟩ := Int.eq_ofNat_of_zero_le hg0
          obtain ⟨pf, hpf⟩ : ∃ pf : Nat, (p : Int) - (f : Int) = (pf : Int) := ⟨p - f, by omega⟩
          have hm0 : (0 : Int) ≤ (pf : Int) * (cb : Int) := by exact_mod_cast Nat.zero_le (pf * cb)
          have hm1 : (pf : Int) * (cb : Int) ≤ 4096 := by have := Nat.mul_le_mul (show pf ≤ 64 by omega) (show cb ≤ 64 by omega); exact_mod_cast this
          obtain ⟨t, ht⟩ : ∃ t, (v + (pf : Int) * (cb : Int)) % (p : Int) = t := ⟨_, rfl⟩
          have ht0 : 0 ≤ t := by rw [← ht]; exact Int.emod_nonneg _ (by omega)
          have ht1 : t < (p : Int) := by rw [← ht]; exact Int.emod_lt_of_pos _ (by omega)
          have hpz : (1 : Int) ≤ (p : Int) := by omega
          have HS : Hid ((restIn b p f i j z).set (i + j) t = restIn b p f i (j + 1) z) := Lib.hid (by rw [restIn, HV.out, HCB.out, ← ht, ← hpf, step_add])
          have hO2 := hO.set (k := i + j) rfl t
          rw [HS.out] at hO2
          have hE2 := hE.setCell (p := ⟨g, i + j, none⟩) hB (.int .i64 t)
          have hzat : (i : Int) + (j : Int) < (n7 : Int) := by omega
          clear hO hE
          go_wp2_with fail
          go_region
          go_wp2
          go_roundg (dg + 1 - (j + 1))
          case measure => go_light; omega
          case rel => go_light; exact ⟨j + 1, by omega, rfl, by go_num, hO2.ext ((Ext.refl _).drew), hE2.drew⟩
        · have hzj : ¬ (j : Int) < (dg : Int) + 1 := by omega
          have hzj2 : ¬ (j : Int) < ((dg + 1 : Nat) : Int) := by omega
          obtain rfl : j = dg + 1 := by omega
          have HZ2 := Lib.hid (restIn_bnd (f := f) HZ.out i (dg + 1) (b := b))
          have e4 : (kk : Int) - 1 = (dg : Int) + (i : Int) - 1 := by have := HKK.out; omega
          go_wp2
          go_roundg (1 * i)
          case measure => go_light; omega
          case rel => go_light; exact ⟨i, _, by omega, rfl, by go_num, hO, HZ2, HT2, hE⟩
end Go.Proofs.Ytgggbicmmijlnaa
