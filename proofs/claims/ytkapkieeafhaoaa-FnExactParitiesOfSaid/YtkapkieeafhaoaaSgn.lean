/- Signs of permutations, of both. Conditions: none. -/
import Derived.Test.YtkapkieeafhaoaaCycI
import Derived.Test.YtkapkieeafhaoaaPermI
import Derived.Test.YtkapkieeafhaoaaPermS
namespace Go.Proofs.Ytkapkieeafhaoaa
open Go.RowKit

def sgn (p : List Int) : Int := if oddP p then -1 else 1

set_option maxHeartbeats 1600000 in
theorem implSignOf_any (a : Option Addr) (n c : Nat) (p : List Int) (w : World) (hx : RdI w a n c p) (hn : n ≤ 10) (hp : IsPerm p) :
    Calls Try.prog 120 #[.slice a n c] w fun e w' => e = .returned (.int .i64 (sgn p)) ∧ Ext w w' := by
  have hb1 := hx.le
  have hb2 := hx.max
  have Hl := Lib.hid hx.len
  have Hp := Lib.hid hp
  have hpo : pb (PermOk p) = true := pb_true (PermOk.of hp (by rw [← hx.len]; exact hn))
  have Hpo := Lib.hid hpo
  clear hp hpo
  go_enter Try.func120, Try.ntmps120
  go_wp2_with fail
  refine (validPerm_any _ _ _ p _ hx (by omega)).mono ?_
  rintro e w1 ⟨rfl, hE⟩
  rw [Hpo.out]
  go_wp2_with fail
  refine (cyclesOf_any _ _ _ p _ (hx.ext hE) (by omega) Hp.out).mono ?_
  rintro e w2 ⟨a2, m, c2, rs, rfl, hO, hE2⟩
  obtain ⟨t1, t2⟩ := cyc_tot Hp.out
  have hm : m = (cyc p).length := hO.top.len ▸ (by rw [hO.rlen])
  have hmn : m ≤ n := by rw [hm, Hl.out]; exact t2
  have ho := oddP_sub Hp.out
  rw [← Hl.out, ← hm] at ho
  obtain ⟨d, hd⟩ : ∃ d, n - m = d := ⟨_, rfl⟩
  rw [hd] at ho
  have hsub : (n : Int) - (m : Int) = (d : Int) := by omega
  have HO := Lib.hid ho
  have hd10 : d ≤ 10 := by omega
  clear ho hm t1 t2 hd
  by_cases h2 : d % 2 = 0
  · have hr : (d : Int) % 2 = 0 := by omega
    have HF : Hid (sgn p = 1) := Lib.hid (by rw [sgn, HO.out.1 h2]; rfl)
    clear h2
    go_wp2
    go_ret
    exact ⟨ret_int HF.out.symm, hE.trans hE2⟩
  · have hr : (d : Int) % 2 = 1 := by omega
    have HF : Hid (sgn p = -1) := Lib.hid (by
      have : oddP p = true := by
        cases h : oddP p
        · exact absurd (HO.out.2 h) h2
        · rfl
      rw [sgn, this]; rfl)
    clear h2
    go_wp2
    go_ret
    exact ⟨ret_int HF.out.symm, hE.trans hE2⟩

theorem evs_take {L : List (List Int)} {k : Nat} (hk : k < L.length) : evs (L.take (k + 1)) = evs (L.take k) + (if (gr L k).length % 2 = 0 then 1 else 0) := by
  rw [List.take_add_one, gr_get hk, ← evs_snoc]
  rfl

set_option maxRecDepth 100000 in
set_option maxHeartbeats 1600000 in
theorem specSignOf_any (a : Option Addr) (n c : Nat) (p : List Int) (w : World) (hx : RdI w a n c p) (hn : n ≤ 10) (hp : IsPerm p) :
    Calls Try.prog 119 #[.slice a n c] w fun e w' => e = .returned (.int .i64 (sgn p)) ∧ Ext w w' := by
  have hb1 := hx.le
  have hb2 := hx.max
  have Hl := Lib.hid hx.len
  have Hp := Lib.hid hp
  have hpo : pb (PermOk p) = true := pb_true (PermOk.of hp (by rw [← hx.len]; exact hn))
  have Hpo := Lib.hid hpo
  clear hp hpo
  go_enter Try.func119, Try.ntmps119
  go_wp2_with fail
  refine (l04Ok_any _ _ _ p _ hx).mono ?_
  rintro e w1 ⟨rfl, hQ⟩
  have hE := hQ.ext
  rw [Hpo.out]
  go_wp2_with fail
  refine (l04Cycles_any _ _ _ p _ (hx.ext hE) (by omega) Hp.out).mono ?_
  rintro e w2 ⟨a2, m, c2, rs, rfl, hO, hE2⟩
  have hR := hO.rd
  have hr1 := hR.le
  have hr2 := hR.max
  have Hm := Lib.hid hR.len
  clear hO
  go_wp2
  go_loopg [4, 5] m (fun gh o i wr => ∃ (k : Nat) (b : Bool), k ≤ m ∧ gh = m - k ∧ i = .int .i64 k ∧ o = .int .i64 (if b then -1 else 1) ∧ Hid (b = (evs ((cyc p).take k) % 2 == 1)) ∧ w2 = wr)
  case atStart => exact ⟨0, false, Nat.zero_le _, rfl, rfl, rfl, rfl, rfl⟩
  case round =>
    obtain ⟨k, b, hk, rfl, rfl, rfl, HB, rfl⟩ := hrel
    by_cases hlt : k < m
    · have hz : (k : Int) < (m : Int) := by omega
      obtain ⟨g, off, ai, ni, ci, rfl, hc, hrow⟩ := hR.gr hlt
      have hni := hrow.len
      have et := evs_take (L := cyc p) (k := k) (by rw [← Hm.out]; exact hlt)
      rw [← hni] at et
      have ET := Lib.hid et
      clear hni et hrow
      by_cases h2 : ni % 2 = 0
      · have hr : (ni : Int) % 2 = 0 := by omega
        have HN : Hid ((!b) = (evs ((cyc p).take (k + 1)) % 2 == 1)) := Lib.hid (by
          rw [ET.out, if_pos h2, HB.out]
          rcases Nat.mod_two_eq_zero_or_one (evs ((cyc p).take k)) with h | h
          · rw [show (evs ((cyc p).take k) + 1) % 2 = 1 by omega, h]; rfl
          · rw [show (evs ((cyc p).take k) + 1) % 2 = 0 by omega, h]; rfl)
        clear h2
        cases b
        · go_wp2
          go_roundg (m - (k + 1))
          case measure => go_light; omega
          case rel => go_light; exact ⟨k + 1, true, by omega, rfl, by go_num, rfl, HN, rfl⟩
        · go_wp2
          go_roundg (m - (k + 1))
          case measure => go_light; omega
          case rel => go_light; exact ⟨k + 1, false, by omega, rfl, by go_num, rfl, HN, rfl⟩
      · have hr : (ni : Int) % 2 = 1 := by omega
        have HN : Hid (b = (evs ((cyc p).take (k + 1)) % 2 == 1)) := Lib.hid (by rw [ET.out, if_neg h2, Nat.add_zero]; exact HB.out)
        clear h2
        cases b
        · go_wp2
          go_roundg (m - (k + 1))
          case measure => go_light; omega
          case rel => go_light; exact ⟨k + 1, false, by omega, rfl, by go_num, rfl, HN, rfl⟩
        · go_wp2
          go_roundg (m - (k + 1))
          case measure => go_light; omega
          case rel => go_light; exact ⟨k + 1, true, by omega, rfl, by go_num, rfl, HN, rfl⟩
    · have hz : ¬ (k : Int) < (m : Int) := by omega
      obtain rfl : m = k := by omega
      have HF : Hid (b = oddP p) := Lib.hid (by have := HB.out; rwa [List.take_of_length_le (by rw [← Hm.out]; exact Nat.le_refl _)] at this)
      cases b
      · go_wp2
        go_ret
        exact ⟨ret_int (by rw [sgn, ← HF.out]; rfl), hE.trans hE2⟩
      · go_wp2
        go_ret
        exact ⟨ret_int (by rw [sgn, ← HF.out]; rfl), hE.trans hE2⟩
end Go.Proofs.Ytkapkieeafhaoaa
