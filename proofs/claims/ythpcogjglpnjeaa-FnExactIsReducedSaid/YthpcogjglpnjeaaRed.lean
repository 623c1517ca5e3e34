/- IsReduced of both. Conditions: none. -/
import Derived.Test.YthpcogjglpnjeaaSqV
namespace Go.Proofs.Ythpcogjglpnjeaa
open Go.RowKit

/-- A reduced square. -/
def RedOk (p : List (List Int)) : Prop := SqOk p ∧ ∀ k, k < p.length → at2 p 0 k = k ∧ at2 p k 0 = k

set_option maxHeartbeats 1600000 in
theorem specRed (a : Option Addr) (n c : Nat) (p : List (List Int)) (w : World) (hx : RdR w a n c p) (_ : p.length + tot p ≤ 1048576) :
    Calls Try.prog 20 #[.slice a n c] w fun e w' => e = .returned (.bool (pb (RedOk p))) ∧ Ext w w' := by
  have hb1 := hx.le
  have hb2 := hx.max
  have Hx := Lib.hid hx.len
  by_cases hv : SqOk p
  · obtain ⟨h1, h2, h3⟩ := hv.dims Hx.out
    have Hv := Lib.hid hv
    have HR := Lib.hid h3
    clear hv h3
    go_enter Try.func20, Try.ntmps20
    go_wp2_with fail
    refine (l06Ok_any _ _ _ p _ hx).mono ?_
    rintro e w2 ⟨rfl, hE⟩
    rw [pb_true Hv.out]
    go_wp2
    go_loopg [3] n (fun g i wr => ∃ k : Nat, k ≤ n ∧ g = n - k ∧ i = .int .i64 k ∧ w2 = wr ∧ Hid (∀ j, j < k → at2 p 0 j = j ∧ at2 p j 0 = j))
    case atStart => exact ⟨0, Nat.zero_le _, rfl, rfl, rfl, fun j h => absurd h (Nat.not_lt_zero _)⟩
    case round =>
      obtain ⟨k, hk, rfl, rfl, rfl, Hp⟩ := hrel
      by_cases hlt : k < n
      · have hz : (k : Int) < (n : Int) := by omega
        have hz0 : (0 : Int) < (n : Int) := by omega
        have hxw := hx.ext hE
        obtain ⟨b, o, ai, ci, rfl, hc, hrow⟩ := hxw.row HR.out (k := 0) (by omega)
        obtain ⟨b1, o1, rfl, hc1⟩ := hrow.cell2 hlt
        obtain ⟨b', o', ak, ck, hh, hck, hrowk⟩ := hxw.row HR.out hlt
        cases hh
        obtain ⟨b3, o3, rfl, hc3⟩ := hrowk.cell2 (y := 0) (by omega)
        rw [Nat.add_zero] at hc hc3
        clear hrow hrowk hxw
        by_cases e1 : at2 p 0 k = k
        · have e1' : (at2 p 0 k != (k : Int)) = false := by simp [e1]
          have E1 := Lib.hid e1
          clear e1
          by_cases e2 : at2 p k 0 = k
          · have e2' : (at2 p k 0 != (k : Int)) = false := by simp [e2]
            have E2 := Lib.hid e2
            clear e2
            go_wp2
            go_roundg (n - (k + 1))
            case measure => go_light; omega
            case rel => go_light; exact ⟨k + 1, by omega, rfl, by go_num, rfl, fun j hj => by
              by_cases e : j = k
              · subst e; exact ⟨E1.out, E2.out⟩
              · exact Hp.out j (by omega)⟩
          · have e2' : (at2 p k 0 != (k : Int)) = true := by simp [e2]
            have E2 := Lib.hid e2
            clear e2
            go_wp2
            go_ret
            exact ⟨ret_npb (fun h => E2.out (h.2 k (by have := Hx.out; omega)).2), hE⟩
        · have e1' : (at2 p 0 k != (k : Int)) = true := by simp [e1]
          have E1 := Lib.hid e1
          clear e1
          go_wp2
          go_ret
          exact ⟨ret_npb (fun h => E1.out (h.2 k (by have := Hx.out; omega)).1), hE⟩
      · have hz : ¬ (k : Int) < (n : Int) := by omega
        obtain rfl : n = k := by omega
        go_wp2
        go_ret
        exact ⟨ret_pb ⟨Hv.out, fun k hk => Hp.out k (by have := Hx.out; omega)⟩, hE⟩
  · have Hv := Lib.hid hv
    clear hv
    go_enter Try.func20, Try.ntmps20
    go_wp2_with fail
    refine (l06Ok_any _ _ _ p _ hx).mono ?_
    rintro e w2 ⟨rfl, hE⟩
    rw [pb_false Hv.out]
    go_wp2
    go_ret
    exact ⟨ret_npb (fun h => Hv.out h.1), hE⟩

set_option maxHeartbeats 1600000 in
theorem implRed (a : Option Addr) (n c : Nat) (p : List (List Int)) (w : World) (hx : RdR w a n c p) (_ : p.length + tot p ≤ 1048576) :
    Calls Try.prog 21 #[.slice a n c] w fun e w' => e = .returned (.bool (pb (RedOk p))) ∧ Ext w w' := by
  have hb1 := hx.le
  have hb2 := hx.max
  have Hx := Lib.hid hx.len
  by_cases hv : SqOk p
  · obtain ⟨h1, h2, h3⟩ := hv.dims Hx.out
    have Hv := Lib.hid hv
    have HR := Lib.hid h3
    clear hv h3
    go_enter Try.func21, Try.ntmps21
    go_wp2_with fail
    refine (validSquare_any _ _ _ p _ hx).mono ?_
    rintro e w2 ⟨rfl, hE⟩
    rw [pb_true Hv.out]
    go_wp2
    go_loopg [9] n (fun g i wr => ∃ k : Nat, k ≤ n ∧ g = n - k ∧ i = .int .i64 k ∧ w2 = wr ∧ Hid (∀ j, j < k → at2 p 0 j = j ∧ at2 p j 0 = j))
    case atStart => exact ⟨0, Nat.zero_le _, rfl, rfl, rfl, fun j h => absurd h (Nat.not_lt_zero _)⟩
    case round =>
      obtain ⟨k, hk, rfl, rfl, rfl, Hp⟩ := hrel
      by_cases hlt : k < n
      · have hz : (k : Int) < (n : Int) := by omega
        have hz0 : (0 : Int) < (n : Int) := by omega
        have hxw := hx.ext hE
        obtain ⟨b, o, ai, ci, rfl, hc, hrow⟩ := hxw.row HR.out (k := 0) (by omega)
        obtain ⟨b1, o1, rfl, hc1⟩ := hrow.cell2 hlt
        obtain ⟨b', o', ak, ck, hh, hck, hrowk⟩ := hxw.row HR.out hlt
        cases hh
        obtain ⟨b3, o3, rfl, hc3⟩ := hrowk.cell2 (y := 0) (by omega)
        rw [Nat.add_zero] at hc hc3
        clear hrow hrowk hxw
        by_cases e1 : at2 p 0 k = k
        · have e1' : (at2 p 0 k != (k : Int)) = false := by simp [e1]
          have E1 := Lib.hid e1
          clear e1
          by_cases e2 : at2 p k 0 = k
          · have e2' : (at2 p k 0 != (k : Int)) = false := by simp [e2]
            have E2 := Lib.hid e2
            clear e2
            go_wp2
            go_roundg (n - (k + 1))
            case measure => go_light; omega
            case rel => go_light; exact ⟨k + 1, by omega, rfl, by go_num, rfl, fun j hj => by
              by_cases e : j = k
              · subst e; exact ⟨E1.out, E2.out⟩
              · exact Hp.out j (by omega)⟩
          · have e2' : (at2 p k 0 != (k : Int)) = true := by simp [e2]
            have E2 := Lib.hid e2
            clear e2
            go_wp2
            go_ret
            exact ⟨ret_npb (fun h => E2.out (h.2 k (by have := Hx.out; omega)).2), hE⟩
        · have e1' : (at2 p 0 k != (k : Int)) = true := by simp [e1]
          have E1 := Lib.hid e1
          clear e1
          go_wp2
          go_ret
          exact ⟨ret_npb (fun h => E1.out (h.2 k (by have := Hx.out; omega)).1), hE⟩
      · have hz : ¬ (k : Int) < (n : Int) := by omega
        obtain rfl : n = k := by omega
        go_wp2
        go_ret
        exact ⟨ret_pb ⟨Hv.out, fun k hk => Hp.out k (by have := Hx.out; omega)⟩, hE⟩
  · have Hv := Lib.hid hv
    clear hv
    go_enter Try.func21, Try.ntmps21
    go_wp2_with fail
    refine (validSquare_any _ _ _ p _ hx).mono ?_
    rintro e w2 ⟨rfl, hE⟩
    rw [pb_false Hv.out]
    go_wp2
    go_ret
    exact ⟨ret_npb (fun h => Hv.out h.1), hE⟩

end Go.Proofs.Ythpcogjglpnjeaa
