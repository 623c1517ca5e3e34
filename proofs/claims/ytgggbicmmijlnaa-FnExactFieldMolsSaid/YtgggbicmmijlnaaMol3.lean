/- The laws' helpers at lists of rows. Conditions: none. -/
import Derived.Test.YtgggbicmmijlnaaOwnM
import Derived.Test.YtgggbicmmijlnaaTo
import Derived.Test.YtgggbicmmijlnaaEq
import Derived.Test.YtgggbicmmijlnaaMark
namespace Go.Proofs.Ytgggbicmmijlnaa
open Go.RowKit

/-- Rows and cells of lists of rows. -/
def s3 : List (List (List Int)) → Nat
  | [] => 0
  | p :: r => (p.length + tot p) + s3 r
/-- Cells of lists of rows. -/
def tt : List (List (List Int)) → Nat
  | [] => 0
  | p :: r => tot p + tt r
theorem s3_append (a b : List (List (List Int))) : s3 (a ++ b) = s3 a + s3 b := by
  induction a with
  | nil => simp [s3]
  | cons x r ih => simp [s3, ih]; omega
theorem tt_append (a b : List (List (List Int))) : tt (a ++ b) = tt a + tt b := by
  induction a with
  | nil => simp [tt]
  | cons x r ih => simp [tt, ih]; omega
theorem tt_le (x : List (List (List Int))) : tt x ≤ s3 x := by
  induction x with
  | nil => exact Nat.le_refl _
  | cons p r ih => simp only [tt, s3]; omega
theorem s3_take_succ {x : List (List (List Int))} {k : Nat} {p : List (List Int)} (h : x[k]? = some p) : s3 (x.take (k + 1)) = s3 (x.take k) + (p.length + tot p) := by
  obtain ⟨hk, rfl⟩ := List.getElem?_eq_some_iff.1 h
  rw [List.take_succ_eq_append_getElem hk, s3_append]; simp [s3]
theorem tt_take_succ {x : List (List (List Int))} {k : Nat} {p : List (List Int)} (h : x[k]? = some p) : tt (x.take (k + 1)) = tt (x.take k) + tot p := by
  obtain ⟨hk, rfl⟩ := List.getElem?_eq_some_iff.1 h
  rw [List.take_succ_eq_append_getElem hk, tt_append]; simp [tt]
theorem s3_take_le (x : List (List (List Int))) (k : Nat) : s3 (x.take k) ≤ s3 x := by
  conv => rhs; rw [← List.take_append_drop k x, s3_append]
  omega
theorem tt_take_le (x : List (List (List Int))) (k : Nat) : tt (x.take k) ≤ tt x := by
  conv => rhs; rw [← List.take_append_drop k x, tt_append]
  omega
theorem one_le_s3 {x : List (List (List Int))} {k : Nat} {p : List (List Int)} (h : x[k]? = some p) : p.length + tot p ≤ s3 x := by
  have := s3_take_succ h
  have := s3_take_le x (k + 1)
  omega

def szv3 (x : List (List (List Int))) (left : Int) : Int := if x.length + s3 x ≤ left then left - (x.length + s3 x) else -1





set_option maxHeartbeats 800000 in
theorem eq_SSS (a a' : Option Addr) (n c n' c' : Nat) (xs ys : List (List (List Int))) (v : Bool) (w : World) (hx : RdM w a n c xs) (hy : RdM w a' n' c' ys) (hv : decide (xs = ys) = v) :
    Calls Try.prog 24 #[.slice a n c, .slice a' n' c'] w fun e w' => e = .returned (.bool v) ∧ Q w w' := by
  have hb1 := hx.le
  have hb2 := hx.max
  have hb3 := hy.le
  have hb4 := hy.max
  have Hx := Lib.hid hx.len
  have Hy := Lib.hid hy.len
  have Hv := Lib.hid hv
  clear hv
  by_cases h : n = n'
  · subst h
    have h' : ((n : Int) == (n : Int)) = true := by simp
    have h'' : ((n : Int) != (n : Int)) = false := by simp
    go_enter Try.func24, Try.ntmps24
    go_wp2
    go_loopg [5] n (fun g i wr => ∃ k : Nat, k ≤ n ∧ g = n - k ∧ i = .int .i64 k ∧ Q w wr ∧ Hid (xs.take k = ys.take k))
    case atStart => exact ⟨0, Nat.zero_le _, rfl, rfl, Q.refl _, rfl⟩
    case round =>
      obtain ⟨k, hk, rfl, rfl, hQ, Ht⟩ := hrel
      by_cases hlt : k < n
      · obtain ⟨b1, o1, ai1, ni1, ci1, x1, rfl, c1, r1, H1⟩ := RdM.at_ (RdM.ext hx hQ.ext) hlt
        obtain ⟨b2, o2, ai2, ni2, ci2, x2, rfl, c2, r2, H2⟩ := RdM.at_ (RdM.ext hy hQ.ext) hlt
        have hz : (k : Int) < (n : Int) := by omega
        by_cases he : x1 = x2
        · subst he
          go_wp2_with fail
          go_quiet ((go_at_call 17; exact Calls.quiet_of (eq_SS _ _ _ _ _ _ _ _ true _ (r1.ext ((Ext.refl _).drewN _)) (r2.ext ((Ext.refl _).drewN _)) (by simp))))
          go_wp2
          go_roundg (n - (k + 1))
          case measure => go_light; omega
          case rel => go_light; exact ⟨k + 1, by omega, rfl, by go_num, hQ.drewN _, take_eq_succ Ht.out H1.out H2.out⟩
        · go_wp2_with fail
          go_quiet ((go_at_call 17; exact Calls.quiet_of (eq_SS _ _ _ _ _ _ _ _ false _ (r1.ext ((Ext.refl _).drewN _)) (r2.ext ((Ext.refl _).drewN _)) (by simp [he]))))
          go_wp2
          go_ret
          exact ⟨ret_bool (by rw [← Hv.out]; exact (decide_eq_false (ne_of_get H1.out H2.out he)).symm), hQ.drewN _⟩
      · have hz : ¬ (k : Int) < (n : Int) := by omega
        go_wp2
        go_ret
        have : k = n := by omega
        subst this
        exact ⟨ret_bool (by rw [← Hv.out]; exact (decide_eq_true (eq_of_take_len Ht.out Hx.out.symm Hy.out.symm)).symm), hQ⟩
  · have h' : ((n : Int) == (n' : Int)) = false := by simp; omega
    have h'' : ((n : Int) != (n' : Int)) = true := by simp; omega
    go_enter Try.func24, Try.ntmps24
    go_wp2
    go_ret
    exact ⟨ret_bool (by rw [← Hv.out]; exact (decide_eq_false (fun e => h (by rw [Hx.out, Hy.out, e]))).symm), Q.refl _⟩

def markM : Int → List (List (List Int)) → List (List (List Int))
  | _, [] => []
  | k, p :: r => markR k p :: markM (k + tot p) r
theorem markM_length (k : Int) (x : List (List (List Int))) : (markM k x).length = x.length := by
  induction x generalizing k with
  | nil => rfl
  | cons p r ih => simp [markM, ih]
theorem markM_append (a b : List (List (List Int))) : ∀ k, markM k (a ++ b) = markM k a ++ markM (k + tt a) b := by
  induction a with
  | nil => intro k; simp [markM, tt]
  | cons x r ih => intro k; simp only [List.cons_append, markM, tt, ih]; rw [Int.add_assoc]; rfl
theorem markM_get (x : List (List (List Int))) : ∀ (k : Int) (i : Nat) (p : List (List Int)), x[i]? = some p → (markM k x)[i]? = some (markR (k + tt (x.take i)) p) := by
  induction x with
  | nil => intro k i p h; simp at h
  | cons q r ih =>
    intro k i p h
    cases i with
    | zero => simp at h; subst h; simp [markM, tt]
    | succ i =>
      simp only [List.getElem?_cons_succ] at h
      simp only [markM, List.getElem?_cons_succ, List.take_succ_cons, tt]
      rw [ih _ _ _ h]
      congr 2
      rw [Int.add_assoc]; rfl
theorem markM_step {x : List (List (List Int))} {j : Nat} {k : Int} {p : List (List Int)} (h : x[j]? = some p) :
    (markM k (x.take j) ++ x.drop j).set j (markR (k + tt (x.take j)) p) = markM k (x.take (j + 1)) ++ x.drop (j + 1) := by
  obtain ⟨hj, rfl⟩ := List.getElem?_eq_some_iff.1 h
  have h1 : (markM k (x.take j)).length = j := by rw [markM_length, List.length_take]; omega
  rw [List.set_append_right _ _ (by omega), h1, Nat.sub_self, List.drop_eq_getElem_cons hj, List.set_cons_zero, List.take_succ_eq_append_getElem hj, markM_append, List.append_assoc]
  rfl
theorem get_markM_drop {x : List (List (List Int))} {j : Nat} {k : Int} {p : List (List Int)} (h : (markM k (x.take j) ++ x.drop j)[j]? = some p) : x[j]? = some p := by
  rw [List.getElem?_append_right (by rw [markM_length, List.length_take]; omega)] at h
  rw [markM_length, List.length_take] at h
  by_cases hj : j < x.length
  · rw [Nat.min_eq_left (by omega), Nat.sub_self, List.getElem?_drop] at h
    simpa using h
  · have : x.drop j = [] := List.drop_of_length_le (by omega)
    rw [this] at h
    simp at h

set_option maxHeartbeats 800000 in
theorem mark_SSS (B : Nat) (a : Option Addr) (n c : Nat) (x : List (List (List Int))) (rs : List RowM) (k : Int) (w : World) (hx : OwnM w B a n c x rs) (hn : tt x ≤ 1099511627776) (hk0 : 0 ≤ k) (hk : k + tt x ≤ 1099511627776) :
    Calls Try.prog 25 #[.slice a n c, .int .i64 k] w fun e w' => e = .returned (.int .i64 (k + tt x)) ∧ OwnM w' B a n c (markM k x) rs ∧ Only (onlyM a rs) w w' := by
  have Hl := Lib.hid hx.len
  have hn1 := hx.top.le
  go_enter Try.func25, Try.ntmps25
  go_wp2
  go_loopg [1, 5] n (fun g s i wr => ∃ j : Nat, j ≤ n ∧ g = n - j ∧ i = .int .i64 j ∧ s = .int .i64 (k + tt (x.take j)) ∧ OwnM wr B a n c (markM k (x.take j) ++ x.drop j) rs ∧ Only (onlyM a rs) w wr)
  case atStart => exact ⟨0, Nat.zero_le _, rfl, rfl, by simp [tt], by simpa [markM] using hx, Only.refl _ _⟩
  case round =>
    obtain ⟨j, hj, rfl, rfl, rfl, hO, hE⟩ := hrel
    by_cases hlt : j < n
    · obtain ⟨g, r, p, rfl, hB, hoc, hof, hrow, Hr, Hz⟩ := hO.at_ hlt
      have hz : (j : Int) < (n : Int) := by omega
      have hxs := get_markM_drop Hz.out
      have HX := Lib.hid hxs
      have hidx : k + tt (x.take j) + tot p = k + tt (x.take (j + 1)) := by have := tt_take_succ hxs; omega
      have htl : tt (x.take j) + tot p ≤ tt x := by have := tt_take_le x (j + 1); have := tt_take_succ hxs; omega
      have HI := Lib.hid hidx
      clear hidx hxs
      go_wp2_with fail
      refine (mark_SS B _ _ _ p _ _ _ hrow (by omega) (by omega) (by omega)).mono ?_
      rintro e w2 ⟨rfl, hown, hE2⟩
      have hO' := hO.only_row Hr.out hE2 hown
      rw [markM_step HX.out] at hO'
      have hE' := hE.trans (hE2.mono fun b hb => Or.inr ⟨r, List.mem_of_getElem? Hr.out, hb⟩)
      clear hO hE hx hown hE2 hrow
      go_wp2
      go_roundg (n - (j + 1))
      case measure => go_light; omega
      case rel =>
        go_light
        refine ⟨j + 1, by omega, rfl, by go_num, ?_, hO', hE'⟩
        rw [HI.out]
    · have hz : ¬ (j : Int) < (n : Int) := by omega
      have hkn : j = n := by omega
      have Hk := Lib.hid hkn
      clear hkn
      go_wp2
      go_ret
      have := Hk.out
      subst this
      rw [List.take_of_length_le (by have := Hl.out; omega), List.drop_of_length_le (by have := Hl.out; omega), List.append_nil] at hO
      exact ⟨ret_int (by rw [List.take_of_length_le (by have := Hl.out; omega)]), hO, hE⟩

set_option maxHeartbeats 800000 in
theorem held_SSS (a : Option Addr) (n c : Nat) (x : List (List (List Int))) (k : Int) (w : World) (hx : RdM w a n c (markM k x)) (hn : tt x ≤ 1099511627776) (hk0 : 0 ≤ k) (hk : k + tt x ≤ 1099511627776) :
    Calls Try.prog 26 #[.slice a n c, .int .i64 k] w fun e w' => e = .returned (.int .i64 (k + tt x)) ∧ Q w w' := by
  have Hl := Lib.hid hx.len
  have hn1 := hx.le
  have hn2 := hx.max
  go_enter Try.func26, Try.ntmps26
  go_wp2
  go_loopg [1, 5] n (fun g s i wr => ∃ j : Nat, j ≤ n ∧ g = n - j ∧ i = .int .i64 j ∧ s = .int .i64 (k + tt (x.take j)) ∧ Q w wr)
  case atStart => exact ⟨0, Nat.zero_le _, rfl, rfl, by simp [tt], Q.refl _⟩
  case round =>
    obtain ⟨j, hj, rfl, rfl, rfl, hQ⟩ := hrel
    by_cases hlt : j < n
    · obtain ⟨b, o, ai, ni, ci, q, rfl, hc, hrow, Hz⟩ := RdM.at_ (RdM.ext hx hQ.ext) hlt
      have hz : (j : Int) < (n : Int) := by omega
      have hj' : j < x.length := by have := Hl.out; rw [markM_length] at this; omega
      obtain ⟨p, hp⟩ : ∃ p, x[j]? = some p := ⟨_, List.getElem?_eq_getElem hj'⟩
      have hq := Hz.out
      rw [markM_get _ _ _ _ hp] at hq
      simp only [Option.some.injEq] at hq
      subst hq
      have hidx : k + tt (x.take j) + tot p = k + tt (x.take (j + 1)) := by have := tt_take_succ hp; omega
      have htl : tt (x.take j) + tot p ≤ tt x := by have := tt_take_le x (j + 1); have := tt_take_succ hp; omega
      have hneg : ¬ (k + tt (x.take j) + tot p < 0) := by omega
      have HI := Lib.hid hidx
      clear hidx hp
      go_wp2_with fail
      refine (held_SS _ _ _ p _ _ hrow (by omega) (by omega) (by omega)).mono ?_
      rintro e w2 ⟨rfl, hQ2⟩
      clear hrow
      go_wp2
      go_roundg (n - (j + 1))
      case measure => go_light; omega
      case rel =>
        go_light
        refine ⟨j + 1, by omega, rfl, by go_num, ?_, hQ.trans hQ2⟩
        rw [HI.out]
    · have hz : ¬ (j : Int) < (n : Int) := by omega
      have hkn : j = n := by omega
      have Hk := Lib.hid hkn
      clear hkn
      go_wp2
      go_ret
      exact ⟨ret_int (by rw [List.take_of_length_le (by have := Hl.out; have := Hk.out; rw [markM_length] at *; omega)]), hQ⟩
end Go.Proofs.Ytgggbicmmijlnaa
