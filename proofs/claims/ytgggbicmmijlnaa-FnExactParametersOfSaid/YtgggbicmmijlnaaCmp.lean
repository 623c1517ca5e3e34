/- CompareLists and slices.Compare. Conditions: none. -/
import Derived.Test.YtgggbicmmijlnaaCmpP
namespace Go.Proofs.Ytgggbicmmijlnaa
open Go.RowKit

set_option maxRecDepth 100000 in
set_option maxHeartbeats 1600000 in
theorem cmpLists_any (a a' : Option Addr) (n c n' c' : Nat) (xs ys : List Int) (w : World) (hx : RdI w a n c xs) (hy : RdI w a' n' c' ys) :
    Calls Try.prog 57 #[.slice a n c, .slice a' n' c'] w fun e w' => e = .returned (.int .i64 (cmpL xs ys)) ∧ Q w w' := by
  have hb1 := hx.le
  have hb2 := hx.max
  have hb3 := hy.le
  have hb4 := hy.max
  have Hx := Lib.hid hx.len
  have Hy := Lib.hid hy.len
  go_enter Try.func57, Try.ntmps57
  go_wp2
  go_loopg [5] n (fun g i wr => ∃ k : Nat, k ≤ n ∧ k ≤ n' ∧ g = n - k ∧ i = .int .i64 k ∧ Q w wr ∧ Hid (cmpL xs ys = cmpL (xs.drop k) (ys.drop k)))
  case atStart => exact ⟨0, Nat.zero_le _, Nat.zero_le _, rfl, rfl, Q.refl _, rfl⟩
  case round =>
    obtain ⟨k, hk, hk', rfl, rfl, hQ, Ht⟩ := hrel
    by_cases h1 : k < n
    · by_cases h2 : k < n'
      · have hz1 : (k : Int) < (n : Int) := by omega
        have hz2 : (k : Int) < (n' : Int) := by omega
        obtain ⟨b1, o1, x1, rfl, c1, H1⟩ := (hx.ext hQ.ext).at_ h1
        obtain ⟨b2, o2, x2, rfl, c2, H2⟩ := (hy.ext hQ.ext).at_ h2
        have hd := cmpL_drop Ht.out H1.out H2.out
        have Hd := Lib.hid hd
        clear hd
        by_cases e1 : x1 < x2
        · have d1 : decide (x1 < x2) = true := decide_eq_true e1
          go_wp2_with fail
          go_quiet (fail)
          go_wp2
          go_ret
          exact ⟨ret_int (by rw [Hd.out, if_pos (by omega)]), hQ.drewN _⟩
        · have d1 : decide (x1 < x2) = false := decide_eq_false e1
          by_cases e2 : x2 < x1
          · have d2 : decide (x2 < x1) = true := decide_eq_true e2
            have hc1 : ∀ k, (wr.drewN k).cell? ⟨b1, o1 + k, none⟩ = wr.cell? ⟨b1, o1 + k, none⟩ := fun _ => rfl
            go_wp2_with fail
            go_quiet (fail)
            go_wp2_with fail
            go_quiet (fail)
            go_wp2
            go_ret
            exact ⟨ret_int (by rw [Hd.out, if_neg (by omega), if_pos (by omega)]), by first | exact hQ.drewN _ | exact (hQ.drewN _).drewN _⟩
          · have d2 : decide (x2 < x1) = false := decide_eq_false e2
            go_wp2_with fail
            go_quiet (fail)
            go_wp2_with fail
            go_quiet (fail)
            go_wp2
            go_roundg (n - (k + 1))
            case measure => go_light; omega
            case rel => go_light; exact ⟨k + 1, by omega, by omega, rfl, by go_num, hQ.drewN _, by rw [Hid, Hd.out, if_neg (by omega), if_neg (by omega)]⟩
      · have hz1 : (k : Int) < (n : Int) := by omega
        have hz2 : ¬ (k : Int) < (n' : Int) := by omega
        have hd := cmpL_end Ht.out (.inr (by have := Hy.out; omega)) (by have := Hx.out; omega) (by have := Hy.out; omega)
        have Hd := Lib.hid hd
        have hl1 : ¬ (n : Int) < (n' : Int) := by omega
        have hl2 : (n' : Int) < (n : Int) := by omega
        clear hd
        go_wp2
        go_ret
        exact ⟨ret_int (by rw [Hd.out, if_neg (by have := Hx.out; have := Hy.out; omega), if_pos (by have := Hx.out; have := Hy.out; omega)]), hQ⟩
    · have hz1 : ¬ (k : Int) < (n : Int) := by omega
      have hd := cmpL_end Ht.out (.inl (by have := Hx.out; omega)) (by have := Hx.out; omega) (by have := Hy.out; omega)
      have Hd := Lib.hid hd
      clear hd
      by_cases e : n = n'
      · have hl1 : ¬ (n : Int) < (n' : Int) := by omega
        have hl2 : ¬ (n' : Int) < (n : Int) := by omega
        have E := Lib.hid e
        clear e
        go_wp2
        go_ret
        exact ⟨ret_int (by rw [Hd.out, if_neg (by have := Hx.out; have := Hy.out; have := E.out; omega), if_neg (by have := Hx.out; have := Hy.out; have := E.out; omega)]), hQ⟩
      · have hl1 : (n : Int) < (n' : Int) := by omega
        have E := Lib.hid e
        clear e
        go_wp2
        go_ret
        exact ⟨ret_int (by rw [Hd.out, if_pos (by have := Hx.out; have := Hy.out; have := E.out; omega)]), hQ⟩

set_option maxHeartbeats 800000 in
theorem cmpInt_any (x y : Int) (w : World) :
    Calls Try.prog 88 #[.int .i64 x, .int .i64 y] w fun e w' => e = .returned (.int .i64 (if x < y then -1 else if y < x then 1 else 0)) ∧ w = w' := by
  have nan : ∀ (v : Int) (w : World), Calls Try.prog 103 #[.int .i64 v] w fun e w' => e = .returned (.bool false) ∧ w = w' := by
    intro v w
    have hv : (v != v) = false := by simp
    go_enter Try.func103, Try.ntmps103
    go_wp2
    go_ret
    exact ⟨rfl, rfl⟩
  by_cases e1 : x < y
  · rw [if_pos e1]
    go_enter Try.func88, Try.ntmps88
    go_wp2_with fail
    refine (nan _ _).mono ?_
    rintro e w2 ⟨rfl, rfl⟩
    go_wp2_with fail
    refine (nan _ _).mono ?_
    rintro e w2 ⟨rfl, rfl⟩
    go_wp2
    go_ret
    exact ⟨rfl, rfl⟩
  · rw [if_neg e1]
    by_cases e2 : y < x
    · rw [if_pos e2]
      go_enter Try.func88, Try.ntmps88
      go_wp2_with fail
      refine (nan _ _).mono ?_
      rintro e w2 ⟨rfl, rfl⟩
      go_wp2_with fail
      refine (nan _ _).mono ?_
      rintro e w2 ⟨rfl, rfl⟩
      go_wp2
      go_ret
      exact ⟨rfl, rfl⟩
    · rw [if_neg e2]
      go_enter Try.func88, Try.ntmps88
      go_wp2_with fail
      refine (nan _ _).mono ?_
      rintro e w2 ⟨rfl, rfl⟩
      go_wp2_with fail
      refine (nan _ _).mono ?_
      rintro e w2 ⟨rfl, rfl⟩
      go_wp2
      go_ret
      exact ⟨rfl, rfl⟩

set_option maxRecDepth 100000 in
set_option maxHeartbeats 1600000 in
theorem slCompare_any (a a' : Option Addr) (n c n' c' : Nat) (xs ys : List Int) (w : World) (hx : RdI w a n c xs) (hy : RdI w a' n' c' ys) :
    Calls Try.prog 62 #[.slice a n c, .slice a' n' c'] w fun e w' => e = .returned (.int .i64 (cmpL xs ys)) ∧ w = w' := by
  have hb1 := hx.le
  have hb2 := hx.max
  have hb3 := hy.le
  have hb4 := hy.max
  have Hx := Lib.hid hx.len
  have Hy := Lib.hid hy.len
  go_enter Try.func62, Try.ntmps62
  go_wp2
  go_loopg [11] n (fun g i wr => ∃ k : Nat, k ≤ n ∧ k ≤ n' ∧ g = n - k ∧ i = .int .i64 k ∧ w = wr ∧ Hid (cmpL xs ys = cmpL (xs.drop k) (ys.drop k)))
  case atStart => exact ⟨0, Nat.zero_le _, Nat.zero_le _, rfl, rfl, rfl, rfl⟩
  case round =>
    obtain ⟨k, hk, hk', rfl, rfl, rfl, Ht⟩ := hrel
    by_cases h1 : k < n
    · by_cases h2 : k < n'
      · have hz1 : (k : Int) < (n : Int) := by omega
        have hz2 : ¬ (n' : Int) ≤ (k : Int) := by omega
        have hz3 : (k : Int) < (n' : Int) := by omega
        obtain ⟨b1, o1, x1, rfl, c1, H1⟩ := hx.at_ h1
        obtain ⟨b2, o2, x2, rfl, c2, H2⟩ := hy.at_ h2
        have hd := cmpL_drop Ht.out H1.out H2.out
        have Hd := Lib.hid hd
        clear hd
        go_wp2_with fail
        refine (cmpInt_any _ _ _).mono ?_
        rintro e w2 ⟨rfl, rfl⟩
        by_cases e1 : x1 < x2
        · rw [if_pos e1]
          go_wp2
          go_ret
          exact ⟨ret_int (by rw [Hd.out, if_pos (by omega)]), rfl⟩
        · rw [if_neg e1]
          by_cases e2 : x2 < x1
          · rw [if_pos e2]
            go_wp2
            go_ret
            exact ⟨ret_int (by rw [Hd.out, if_neg (by omega), if_pos (by omega)]), rfl⟩
          · rw [if_neg e2]
            go_wp2
            go_roundg (n - (k + 1))
            case measure => go_light; omega
            case rel => go_light; exact ⟨k + 1, by omega, by omega, rfl, by go_num, rfl, by rw [Hid, Hd.out, if_neg (by omega), if_neg (by omega)]⟩
      · have hz1 : (k : Int) < (n : Int) := by omega
        have hz2 : (n' : Int) ≤ (k : Int) := by omega
        have hd := cmpL_end Ht.out (.inr (by have := Hy.out; omega)) (by have := Hx.out; omega) (by have := Hy.out; omega)
        have Hd := Lib.hid hd
        clear hd
        obtain ⟨b1, o1, x1, rfl, c1, H1⟩ := hx.at_ h1
        go_wp2
        go_ret
        exact ⟨ret_int (by rw [Hd.out, if_neg (by have := Hx.out; have := Hy.out; omega), if_pos (by have := Hx.out; have := Hy.out; omega)]), rfl⟩
    · have hz1 : ¬ (k : Int) < (n : Int) := by omega
      have hd := cmpL_end Ht.out (.inl (by have := Hx.out; omega)) (by have := Hx.out; omega) (by have := Hy.out; omega)
      have Hd := Lib.hid hd
      clear hd
      by_cases e : n = n'
      · have hl1 : ¬ (n : Int) < (n' : Int) := by omega
        have E := Lib.hid e
        clear e
        go_wp2
        go_ret
        exact ⟨ret_int (by rw [Hd.out, if_neg (by have := Hx.out; have := Hy.out; have := E.out; omega), if_neg (by have := Hx.out; have := Hy.out; have := E.out; omega)]), rfl⟩
      · have hl1 : (n : Int) < (n' : Int) := by omega
        have E := Lib.hid e
        clear e
        go_wp2
        go_ret
        exact ⟨ret_int (by rw [Hd.out, if_pos (by have := Hx.out; have := Hy.out; have := E.out; omega)]), rfl⟩
end Go.Proofs.Ytgggbicmmijlnaa
