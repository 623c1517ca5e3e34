/- orthogonal, of both. Conditions: none. -/
import Derived.Test.YtkapkieeafhaoaaOrtP
import Derived.Test.YtkapkieeafhaoaaSqS
import Derived.Test.YtkapkieeafhaoaaSqI
namespace Go.Proofs.Ytkapkieeafhaoaa
open Go.RowKit

theorem Try.info_bool : (Try.prog.info? 4).map (fun i => (i.zero, i.size, i.bytes)) = some (some (.bool false), 1, 1) := by kernel_rfl

set_option maxRecDepth 100000 in
set_option maxHeartbeats 3200000 in
theorem l07Orthogonal_any (a : Option Addr) (n c : Nat) (p : List (List Int)) (a' : Option Addr) (m c' : Nat) (q : List (List Int)) (w : World) (hp : RdR w a n c p) (hq : RdR w a' m c' q) :
    Calls Try.prog 94 #[.slice a n c, .slice a' m c'] w fun e w' => e = .returned (.bool (pb (OrthOk p q))) ∧ Ext w w' := by
  have Hl := Lib.hid hp.len
  have Hm := Lib.hid hq.len
  have hb1 := hp.le
  have hb2 := hp.max
  have hb3 := hq.le
  have hb4 := hq.max
  go_enter Try.func94, Try.ntmps94
  go_wp2_with fail
  refine (l06Ok_any _ _ _ p _ hp).mono ?_
  rintro e w2 ⟨rfl, hE⟩
  rcases pbc (SqOk p) with ⟨hb, Hp⟩ | ⟨hb, Hp⟩
  · rw [hb]
    go_wp2_with fail
    refine (l06Ok_any _ _ _ q _ (hq.ext hE)).mono ?_
    rintro e w3 ⟨rfl, hE3⟩
    rcases pbc (SqOk q) with ⟨hb', Hq⟩ | ⟨hb', Hq⟩
    · rw [hb']
      by_cases hmn : n = m
      · subst hmn
        have hne : ((n : Int) != (n : Int)) = false := by simp
        have ht : Two p q n := ⟨Hp.out, Hq.out, Hl.out.symm, Hm.out.symm⟩
        obtain ⟨hn1, hn, _⟩ := Hp.out.dims Hl.out
        have Ht := Lib.hid ht
        have hE4 := hE.trans hE3
        clear ht hE hE3
        obtain ⟨K, hK0⟩ : ∃ K : Nat, n * n = K := ⟨_, rfl⟩
        have hKn : K ≤ 100 := by have := Nat.mul_le_mul hn hn; omega
        have hK : (n : Int) * (n : Int) = (K : Int) := by rw [← hK0]; simp
        have e0 : (n : Int) * (n : Int) ≤ 100 := by omega
        have e1 : 0 ≤ (n : Int) * (n : Int) := by omega
        have hwK : IntKind.i64.wrap (K : Int) = (K : Int) := IntWalk.i64_in _ (by omega)
        have hmk := run_make_row' (P := Try.prog) 77 4 (.bool false) 1 Try.underlying77 Try.info_bool rfl .i64 .i64 K (by omega) (by omega)
        have HK := Lib.hid hK0
        clear hK0
        go_wp2_with fail
        refine (l07Over_any _ _ _ p _ _ q _ (hp.ext hE4) (hq.ext hE4) Ht.out hn).mono ?_
        rintro e w4 ⟨a4, n4, c4, rs, rfl, hO0, hE5⟩
        obtain rfl : n = n4 := by have := hO0.len; rwa [mat_length, eq_comm] at this
        have hR0 := hO0.rd
        have hr1 := hR0.le
        have hr2 := hR0.max
        have hE6 := hE4.trans hE5
        clear hO0 hE4 hE5
        go_wp2
        clear hmk
        have H0 := own_made w4 4 Value.bool false K (by omega)
        have S0 : Hid (Seen p q n 0 0 (List.replicate K false)) := by rw [← HK.out]; exact Seen.start p q n
        go_loopg [8] n (fun gh i wr => ∃ (k : Nat) (bs : List Bool), k ≤ n ∧ gh = n - k ∧ i = .int .i64 k ∧ OwnB wr w4.heap.size (some ⟨w4.heap.size, 0, none⟩) K K bs ∧ Hid (Seen p q n k 0 bs) ∧ Ext w4 wr)
        case atStart => exact ⟨0, _, Nat.zero_le _, rfl, rfl, H0, S0, (Ext.refl w4).alloc _⟩
        case round =>
          obtain ⟨k, bs, hk, rfl, rfl, hO, HS, hEk⟩ := hrel
          clear H0 S0
          by_cases hlt : k < n
          · have hz : (k : Int) < (n : Int) := by omega
            go_wp2
            go_loopg [9] n (fun gh j wi => ∃ (y : Nat) (bs : List Bool), y ≤ n ∧ gh = n - y ∧ j = .int .i64 y ∧ OwnB wi w4.heap.size (some ⟨w4.heap.size, 0, none⟩) K K bs ∧ Hid (Seen p q n k y bs) ∧ Ext w4 wi)
            case atStart => exact ⟨0, bs, Nat.zero_le _, rfl, rfl, hO, HS, hEk⟩
            case round =>
              obtain ⟨y, bs2, hy, rfl, rfl, hO2, HS2, hEy⟩ := hrel
              clear hO hEk HS
              by_cases hly : y < n
              · have hz2 : (y : Int) < (n : Int) := by omega
                obtain ⟨v, hv, hvn⟩ := Ht.out.over hlt hly
                rw [HK.out] at hvn
                have hvz : (v : Int) < (K : Int) := by omega
                obtain ⟨b, o, ai, ci, rfl, hc, hrow⟩ := (hR0.ext hEy).row (mat_rect n n _) hlt
                obtain ⟨b1, o1, rfl, hc1⟩ := hrow.cell2 hly
                rw [at2_mat hlt hly, hv] at hc1
                obtain ⟨g, z, hg, hB, hoc, hof, Hz⟩ := hO2.at_ hvn
                cases hg
                have Hv := Lib.hid hv
                clear hv hrow
                cases z
                · have hO' := hO2.set (k := v) rfl true
                  have hE' := hEy.setCell (p := ⟨w4.heap.size, v, none⟩) (Nat.le_refl _) (.bool true)
                  have S' : Hid (Seen p q n k (y + 1) (bs2.set v true)) := Lib.hid (HS2.out.cell hly Hv.out Hz.out)
                  clear hO2 hEy
                  go_wp2
                  go_roundg (n - (y + 1))
                  case measure => go_light; omega
                  case rel => go_light; exact ⟨y + 1, _, by omega, rfl, by go_num, hO', S', hE'⟩
                · go_wp2
                  go_ret
                  exact ⟨ret_npb (fun h => HS2.out.hit hlt hly Hv.out Hz.out (by rw [Hl.out]; exact h.2.2)), hE6.trans hEy⟩
              · have hz2 : ¬ (y : Int) < (n : Int) := by omega
                obtain rfl : n = y := by omega
                have S' : Hid (Seen p q n (k + 1) 0 bs2) := Lib.hid HS2.out.row
                go_wp2
                go_roundg (n - (k + 1))
                case measure => go_light; omega
                case rel => go_light; exact ⟨k + 1, _, by omega, rfl, by go_num, hO2, S', hEy⟩
          · have hz : ¬ (k : Int) < (n : Int) := by omega
            obtain rfl : n = k := by omega
            go_wp2
            go_ret
            exact ⟨ret_pb ⟨⟨Hp.out, Hq.out⟩, by rw [← Hl.out, ← Hm.out], by rw [← Hl.out]; exact HS.out.done⟩, hE6.trans hEk⟩
      · have hne : ((n : Int) != (m : Int)) = true := by simp; omega
        have Hne := Lib.hid hmn
        clear hmn
        go_wp2
        go_ret
        exact ⟨ret_npb (fun h => Hne.out (by rw [Hl.out, Hm.out]; exact h.2.1)), hE.trans hE3⟩
    · rw [hb']
      go_wp2
      go_ret
      exact ⟨ret_npb (fun h => Hq.out h.1.2), hE.trans hE3⟩
  · rw [hb]
    go_wp2
    go_ret
    exact ⟨ret_npb (fun h => Hp.out h.1.1), hE⟩

set_option maxRecDepth 100000 in
set_option maxHeartbeats 3200000 in
theorem orthogonal_any (a : Option Addr) (n c : Nat) (p : List (List Int)) (a' : Option Addr) (m c' : Nat) (q : List (List Int)) (w : World) (hp : RdR w a n c p) (hq : RdR w a' m c' q) (Hp : Hid (SqOk p)) (Hq : Hid (SqOk q)) :
    Calls Try.prog 77 #[.slice a n c, .slice a' m c'] w fun e w' => e = .returned (.bool (pb (OrthOk p q))) ∧ Ext w w' := by
  have Hl := Lib.hid hp.len
  have Hm := Lib.hid hq.len
  have hb1 := hp.le
  have hb2 := hp.max
  have hb3 := hq.le
  have hb4 := hq.max
  by_cases hmn : n = m
  · subst hmn
    have hne : ((n : Int) != (n : Int)) = false := by simp
    have ht : Two p q n := ⟨Hp.out, Hq.out, Hl.out.symm, Hm.out.symm⟩
    obtain ⟨hn1, hn, _⟩ := Hp.out.dims Hl.out
    have Ht := Lib.hid ht
    clear ht
    obtain ⟨K, hK0⟩ : ∃ K : Nat, n * n = K := ⟨_, rfl⟩
    have hKn : K ≤ 100 := by have := Nat.mul_le_mul hn hn; omega
    have hK : (n : Int) * (n : Int) = (K : Int) := by rw [← hK0]; simp
    have e0 : (n : Int) * (n : Int) ≤ 100 := by omega
    have e1 : 0 ≤ (n : Int) * (n : Int) := by omega
    have hwK : IntKind.i64.wrap (K : Int) = (K : Int) := IntWalk.i64_in _ (by omega)
    have hmk := run_make_row' (P := Try.prog) 77 4 (.bool false) 1 Try.underlying77 Try.info_bool rfl .i64 .i64 K (by omega) (by omega)
    have HK := Lib.hid hK0
    clear hK0
    go_enter Try.func77, Try.ntmps77
    go_wp2_with fail
    have H00 := own_made w 4 Value.bool false K (by omega)
    have X0 := (Ext.refl w).alloc (.cells (madeCells #[.bool false] K) 4)
    refine (superpose_any _ _ _ p _ _ q _ (hp.ext X0) (hq.ext X0) Ht.out hn).mono ?_
    rintro e w4 ⟨a4, n4, c4, rs, rfl, hO0, hE5⟩
    obtain rfl : n = n4 := by have := hO0.len; rwa [mat_length, eq_comm] at this
    have hB1 : (w.alloc (.cells (madeCells #[.bool false] K) 4)).heap.size = w.heap.size + 1 := by simp
    rw [hB1] at hO0
    have hle := hO0.top.le
    have hE6 := X0.trans hE5
    have H0 := H00.ext hE5
    have S0 : Hid (Seen p q n 0 0 (List.replicate K false)) := by rw [← HK.out]; exact Seen.start p q n
    clear hE5 X0 H00 hmk hB1
    go_wp2
    go_loopg [25] n (fun gh i wr => ∃ (k : Nat) (bs : List Bool), k ≤ n ∧ gh = n - k ∧ i = .int .i64 k ∧ OwnB wr w.heap.size (some ⟨w.heap.size, 0, none⟩) K K bs ∧ Hid (Seen p q n k 0 bs) ∧ Ext w wr ∧ OwnR wr (w.heap.size + 1) a4 n c4 (mat n n (overF p q n)) rs)
    case atStart => exact ⟨0, _, Nat.zero_le _, rfl, rfl, H0, S0, hE6, hO0⟩
    case round =>
      obtain ⟨k, bs, hk, rfl, rfl, hO, HS, hEk, hRk⟩ := hrel
      clear H0 S0 hE6 hO0
      by_cases hlt : k < n
      · have hz : (k : Int) < (n : Int) := by omega
        obtain ⟨g, r, xs, rfl, hBr, hoc, _, hrow, Hr, Hx⟩ := hRk.at_ hlt
        have hx := Hx.out
        rw [mat_row hlt] at hx
        simp only [Option.some.injEq] at hx
        obtain ⟨ra, rn, rc⟩ := r
        dsimp only at hrow hoc
        have hrn := hrow.len
        rw [← hx, List.length_map, List.length_range] at hrn
        obtain rfl := hrn
        have hq1 := hrow.le
        clear hrow
        go_wp2
        go_loopg [31] rn (fun gh j wi => ∃ (y : Nat) (bs : List Bool), y ≤ rn ∧ gh = rn - y ∧ j = .int .i64 y ∧ OwnB wi w.heap.size (some ⟨w.heap.size, 0, none⟩) K K bs ∧ Hid (Seen p q rn k y bs) ∧ Ext w wi ∧ OwnR wi (w.heap.size + 1) (some ⟨g, 0, none⟩) rn c4 (mat rn rn (overF p q rn)) rs)
        case atStart => exact ⟨0, bs, Nat.zero_le _, rfl, rfl, hO, HS, hEk, hRk⟩
        case round =>
          obtain ⟨y, bs2, hy, rfl, rfl, hO2, HS2, hEy, hRy⟩ := hrel
          clear hO hEk HS hRk
          by_cases hly : y < rn
          · have hz2 : (y : Int) < (rn : Int) := by omega
            obtain ⟨v, hv, hvn⟩ := Ht.out.over hlt hly
            rw [HK.out] at hvn
            have hvz : (v : Int) < (K : Int) := by omega
            obtain ⟨b1, o1, hra, hc1⟩ := ((hRy.row k (ra, rn, rc) xs Hr.out Hx.out).rdI).gi hly
            dsimp only at hra
            subst hra
            rw [show gi xs y = (v : Int) by rw [← hx, ← hv]; exact gi_of (by simp [hly])] at hc1
            obtain ⟨g2, z, hg, hB, hoc2, hof, Hz⟩ := hO2.at_ hvn
            cases hg
            have Hv := Lib.hid hv
            clear hv
            cases z
            · have hO' := hO2.set (k := v) rfl true
              have hE' := hEy.setCell (p := ⟨w.heap.size, v, none⟩) (Nat.le_refl _) (.bool true)
              have hR' := hRy.setOther (p := ⟨w.heap.size, v, none⟩) (fun hf => by have := (hRy.lt hf).1; dsimp only at this; omega) (.bool true)
              have S' : Hid (Seen p q rn k (y + 1) (bs2.set v true)) := Lib.hid (HS2.out.cell hly Hv.out Hz.out)
              clear hO2 hEy hRy
              go_wp2
              go_roundg (rn - (y + 1))
              case measure => go_light; omega
              case rel => go_light; exact ⟨y + 1, _, by omega, rfl, by go_num, hO', S', hE', hR'⟩
            · go_wp2
              go_ret
              exact ⟨ret_npb (fun h => HS2.out.hit hlt hly Hv.out Hz.out (by rw [Hl.out]; exact h.2.2)), hEy⟩
          · have hz2 : ¬ (y : Int) < (rn : Int) := by omega
            obtain rfl : rn = y := by omega
            have S' : Hid (Seen p q rn (k + 1) 0 bs2) := Lib.hid HS2.out.row
            go_wp2
            go_roundg (rn - (k + 1))
            case measure => go_light; omega
            case rel => go_light; exact ⟨k + 1, _, by omega, rfl, by go_num, hO2, S', hEy, hRy⟩
      · have hz : ¬ (k : Int) < (n : Int) := by omega
        obtain rfl : n = k := by omega
        go_wp2
        go_ret
        exact ⟨ret_pb ⟨⟨Hp.out, Hq.out⟩, by rw [← Hl.out, ← Hm.out], by rw [← Hl.out]; exact HS.out.done⟩, hEk⟩
  · have hne : ((n : Int) != (m : Int)) = true := by simp; omega
    have Hne := Lib.hid hmn
    clear hmn
    go_enter Try.func77, Try.ntmps77
    go_wp2
    go_ret
    exact ⟨ret_npb (fun h => Hne.out (by rw [Hl.out, Hm.out]; exact h.2.1)), Ext.refl _⟩
end Go.Proofs.Ytkapkieeafhaoaa
