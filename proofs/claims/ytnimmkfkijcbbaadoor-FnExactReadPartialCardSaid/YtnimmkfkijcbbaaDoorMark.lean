/- The laws' marks. Conditions: none. -/
import Derived.Test.YtnimmkfkijcbbaaDoorSz
import Derived.Test.YtnimmkfkijcbbaaDoorApp
namespace Go.Proofs.YtnimmkfkijcbbaaDoor
open Go.RowKit

/-- Numbers from k on, as many as a list has. -/
def marks (k : Int) (xs : List Int) : List Int := (List.range xs.length).map fun i : Nat => k + (i : Int)

theorem marks_length (k : Int) (xs : List Int) : (marks k xs).length = xs.length := by simp [marks]
theorem marks_get {k : Int} {xs : List Int} {i : Nat} (h : i < xs.length) : (marks k xs)[i]? = some (k + (i : Int)) := by simp [marks, h]

def markR : Int → List (List Int) → List (List Int)
  | _, [] => []
  | k, xs :: r => marks k xs :: markR (k + xs.length) r

theorem markR_length (k : Int) (xss : List (List Int)) : (markR k xss).length = xss.length := by
  induction xss generalizing k with
  | nil => rfl
  | cons x r ih => simp [markR, ih]

theorem markR_get (xss : List (List Int)) : ∀ (k : Int) (i : Nat) (xs : List Int), xss[i]? = some xs → (markR k xss)[i]? = some (marks (k + tot (xss.take i)) xs) := by
  induction xss with
  | nil => intro k i xs h; simp at h
  | cons x r ih =>
    intro k i xs h
    cases i with
    | zero => simp at h; subst h; simp [markR, tot]
    | succ i =>
      simp only [List.getElem?_cons_succ] at h
      simp only [markR, List.getElem?_cons_succ, List.take_succ_cons, tot]
      rw [ih _ _ _ h]
      congr 2
      rw [Int.add_assoc]; rfl

theorem take_set_next {xs ys : List Int} {i : Nat} {x : Int} (hl : xs.length = ys.length) (hi : i < xs.length) (hy : ys[i]? = some x) :
    (ys.take i ++ xs.drop i).set i x = ys.take (i + 1) ++ xs.drop (i + 1) := by
  have h1 : (ys.take i).length = i := by rw [List.length_take]; omega
  rw [List.set_append_right _ _ (by omega), h1, Nat.sub_self, List.drop_eq_getElem_cons hi, List.set_cons_zero]
  obtain ⟨hk, rfl⟩ := List.getElem?_eq_some_iff.1 hy
  rw [List.take_succ_eq_append_getElem hk, List.append_assoc]
  rfl


set_option maxHeartbeats 800000 in
theorem mark_S (B : Nat) (a : Option Addr) (n c : Nat) (xs : List Int) (k : Int) (w : World) (hx : OwnI w B a n c xs) (hn : n ≤ 1099511627776) (hk0 : 0 ≤ k) (hk : k ≤ 1099511627776) :
    Calls Tryd.prog 31 #[.slice a n c, .int .i64 k] w fun e w' => e = .returned (.int .i64 (k + n)) ∧ OwnI w' B a n c (marks k xs) ∧ Only (onlyA a) w w' := by
  have Hl := Lib.hid hx.len
  go_enter Tryd.func31, Tryd.ntmps31
  go_wp2
  go_loopg [1, 5] n (fun g s i wr => ∃ j : Nat, j ≤ n ∧ g = n - j ∧ i = .int .i64 j ∧ s = .int .i64 (k + j) ∧ OwnI wr B a n c ((marks k xs).take j ++ xs.drop j) ∧ Only (onlyA a) w wr)
  case atStart => exact ⟨0, Nat.zero_le _, rfl, rfl, by simp, by simpa using hx, Only.refl _ _⟩
  case round =>
    obtain ⟨j, hj, rfl, rfl, rfl, hO, hE⟩ := hrel
    by_cases hlt : j < n
    · obtain ⟨g, z, rfl, hB, hoc, hof, Hz⟩ := hO.at_ hlt
      have hz : (j : Int) < (n : Int) := by omega
      have hO' := hO.set (k := j) rfl (k + j)
      rw [take_set_next (by rw [marks_length]) (by have := Hl.out; omega) (marks_get (by have := Hl.out; omega))] at hO'
      have hE' := hE.setCell (p := ⟨g, j, none⟩) rfl (.int .i64 (k + j))
      clear hO hE hx
      go_wp2
      go_roundg (n - (j + 1))
      case measure => go_light; omega
      case rel => go_light; exact ⟨j + 1, by omega, rfl, by go_num, by first | go_num | (congr 1; omega), hO', hE'⟩
    · have hz : ¬ (j : Int) < (n : Int) := by omega
      have hkn : j = n := by omega
      have Hk := Lib.hid hkn
      clear hkn
      go_wp2
      go_ret
      have := Hk.out
      subst this
      rw [List.take_of_length_le (by rw [marks_length]; have := Hl.out; omega), List.drop_of_length_le (by have := Hl.out; omega), List.append_nil] at hO
      exact ⟨rfl, hO, hE⟩

set_option maxHeartbeats 800000 in
theorem held_S (a : Option Addr) (n c : Nat) (xs : List Int) (k : Int) (w : World) (hx : RdI w a n c (marks k xs)) (hn : n ≤ 1099511627776) (hk0 : 0 ≤ k) (hk : k ≤ 1099511627776) :
    Calls Tryd.prog 32 #[.slice a n c, .int .i64 k] w fun e w' => e = .returned (.int .i64 (k + n)) ∧ Q w w' := by
  have Hl := Lib.hid hx.len
  go_enter Tryd.func32, Tryd.ntmps32
  go_wp2
  go_loopg [1, 5] n (fun g s i wr => ∃ j : Nat, j ≤ n ∧ g = n - j ∧ i = .int .i64 j ∧ s = .int .i64 (k + j) ∧ Q w wr)
  case atStart => exact ⟨0, Nat.zero_le _, rfl, rfl, by simp, Q.refl _⟩
  case round =>
    obtain ⟨j, hj, rfl, rfl, rfl, hQ⟩ := hrel
    by_cases hlt : j < n
    · obtain ⟨b, o, v, rfl, hc, Hv⟩ := (hx.ext hQ.ext).at_ hlt
      have hz : (j : Int) < (n : Int) := by omega
      have hv := Hv.out
      rw [marks_get (by have := Hl.out; rw [marks_length] at this; omega)] at hv
      cases hv
      go_wp2
      go_roundg (n - (j + 1))
      case measure => go_light; omega
      case rel => go_light; exact ⟨j + 1, by omega, rfl, by go_num, by first | go_num | (congr 1; omega), hQ⟩
    · have hz : ¬ (j : Int) < (n : Int) := by omega
      have hkn : j = n := by omega
      have Hk := Lib.hid hkn
      clear hkn
      go_wp2
      go_ret
      exact ⟨ret_int (by rw [Hk.out]), hQ⟩

theorem markR_append (a b : List (List Int)) : ∀ k, markR k (a ++ b) = markR k a ++ markR (k + tot a) b := by
  induction a with
  | nil => intro k; simp [markR, tot]
  | cons x r ih => intro k; simp only [List.cons_append, markR, tot, ih]; rw [Int.add_assoc]; rfl

theorem markR_step {xss : List (List Int)} {j : Nat} {k : Int} {xs : List Int} (h : xss[j]? = some xs) :
    (markR k (xss.take j) ++ xss.drop j).set j (marks (k + tot (xss.take j)) xs) = markR k (xss.take (j + 1)) ++ xss.drop (j + 1) := by
  obtain ⟨hj, rfl⟩ := List.getElem?_eq_some_iff.1 h
  have h1 : (markR k (xss.take j)).length = j := by rw [markR_length, List.length_take]; omega
  rw [List.set_append_right _ _ (by omega), h1, Nat.sub_self, List.drop_eq_getElem_cons hj, List.set_cons_zero, List.take_succ_eq_append_getElem hj, markR_append, List.append_assoc]
  rfl

theorem get_markR_drop {xss : List (List Int)} {j : Nat} {k : Int} {xs : List Int} (h : (markR k (xss.take j) ++ xss.drop j)[j]? = some xs) : xss[j]? = some xs := by
  rw [List.getElem?_append_right (by rw [markR_length, List.length_take]; omega)] at h
  rw [markR_length, List.length_take] at h
  by_cases hj : j < xss.length
  · rw [Nat.min_eq_left (by omega), Nat.sub_self, List.getElem?_drop] at h
    simpa using h
  · have : xss.drop j = [] := List.drop_of_length_le (by omega)
    rw [this] at h
    simp at h


set_option maxHeartbeats 800000 in
theorem mark_SS (B : Nat) (a : Option Addr) (n c : Nat) (xss : List (List Int)) (rs : List Row) (k : Int) (w : World) (hx : OwnR w B a n c xss rs) (hn : tot xss ≤ 1099511627776) (hk0 : 0 ≤ k) (hk : k + tot xss ≤ 1099511627776) :
    Calls Tryd.prog 14 #[.slice a n c, .int .i64 k] w fun e w' => e = .returned (.int .i64 (k + tot xss)) ∧ OwnR w' B a n c (markR k xss) rs ∧ Only (onlyR a rs) w w' := by
  have Hl := Lib.hid hx.len
  have hn1 := hx.top.le
  go_enter Tryd.func14, Tryd.ntmps14
  go_wp2
  go_loopg [1, 5] n (fun g s i wr => ∃ j : Nat, j ≤ n ∧ g = n - j ∧ i = .int .i64 j ∧ s = .int .i64 (k + tot (xss.take j)) ∧ OwnR wr B a n c (markR k (xss.take j) ++ xss.drop j) rs ∧ Only (onlyR a rs) w wr)
  case atStart => exact ⟨0, Nat.zero_le _, rfl, rfl, by simp [tot], by simpa [markR] using hx, Only.refl _ _⟩
  case round =>
    obtain ⟨j, hj, rfl, rfl, rfl, hO, hE⟩ := hrel
    by_cases hlt : j < n
    · obtain ⟨g, r, xs, rfl, hB, hoc, hof, hrow, Hr, Hz⟩ := hO.at_ hlt
      have hz : (j : Int) < (n : Int) := by omega
      have hxs := get_markR_drop Hz.out
      have HX := Lib.hid hxs
      have hidx : k + tot (xss.take j) + r.2.1 = k + tot (xss.take (j + 1)) := by have := tot_take_succ hxs; have := hrow.len; omega
      have htl : tot (xss.take j) + r.2.1 ≤ tot xss := by have := tot_take_le xss (j + 1); omega
      have HI := Lib.hid hidx
      clear hidx hxs
      go_wp2_with fail
      refine (mark_S B _ _ _ _ _ _ hrow (by omega) (by omega) (by omega)).mono ?_
      rintro e w2 ⟨rfl, hown, hE2⟩
      have hO' := hO.only_row Hr.out hE2 hown
      rw [markR_step HX.out] at hO'
      have hE' := hE.trans (hE2.mono fun b hb => Or.inr ⟨r, List.mem_of_getElem? Hr.out, hb⟩)
      clear hO hE hx hown hE2 hrow
      go_wp2
      go_roundg (n - (j + 1))
      case measure => go_light; omega
      case rel =>
        go_light
        refine ⟨j + 1, by omega, rfl, by go_num, ?_, hO', hE'⟩
        rw [HI.out]
    · have hz : ¬ (j : Int) < (n : Int) := by omega
      have hkn : j = n := by omega
      have Hk := Lib.hid hkn
      clear hkn
      go_wp2
      go_ret
      have := Hk.out
      subst this
      rw [List.take_of_length_le (by have := Hl.out; omega), List.drop_of_length_le (by have := Hl.out; omega), List.append_nil] at hO
      exact ⟨ret_int (by rw [List.take_of_length_le (by have := Hl.out; omega)]), hO, hE⟩

set_option maxHeartbeats 800000 in
theorem held_SS (a : Option Addr) (n c : Nat) (xss : List (List Int)) (k : Int) (w : World) (hx : RdR w a n c (markR k xss)) (hn : tot xss ≤ 1099511627776) (hk0 : 0 ≤ k) (hk : k + tot xss ≤ 1099511627776) :
    Calls Tryd.prog 15 #[.slice a n c, .int .i64 k] w fun e w' => e = .returned (.int .i64 (k + tot xss)) ∧ Q w w' := by
  have Hl := Lib.hid hx.len
  have hn1 := hx.le
  have hn2 := hx.max
  go_enter Tryd.func15, Tryd.ntmps15
  go_wp2
  go_loopg [1, 5] n (fun g s i wr => ∃ j : Nat, j ≤ n ∧ g = n - j ∧ i = .int .i64 j ∧ s = .int .i64 (k + tot (xss.take j)) ∧ Q w wr)
  case atStart => exact ⟨0, Nat.zero_le _, rfl, rfl, by simp [tot], Q.refl _⟩
  case round =>
    obtain ⟨j, hj, rfl, rfl, rfl, hQ⟩ := hrel
    by_cases hlt : j < n
    · obtain ⟨b, o, ai, ni, ci, ys, rfl, hc, hrow, Hz⟩ := (hx.ext hQ.ext).at_ hlt
      have hz : (j : Int) < (n : Int) := by omega
      have hj' : j < xss.length := by have := Hl.out; rw [markR_length] at this; omega
      obtain ⟨xs, hxs⟩ : ∃ xs, xss[j]? = some xs := ⟨_, List.getElem?_eq_getElem hj'⟩
      have hys := Hz.out
      rw [markR_get _ _ _ _ hxs] at hys
      simp only [Option.some.injEq] at hys
      subst hys
      have hidx : k + tot (xss.take j) + ni = k + tot (xss.take (j + 1)) := by have := tot_take_succ hxs; have := hrow.len; rw [marks_length] at this; omega
      have htl : tot (xss.take j) + ni ≤ tot xss := by have := tot_take_le xss (j + 1); omega
      have HI := Lib.hid hidx
      have HX := Lib.hid hxs
      clear hidx hxs
      go_wp2_with fail
      refine (held_S _ _ _ _ _ _ hrow (by omega) (by omega) (by omega)).mono ?_
      rintro e w2 ⟨rfl, hQ2⟩
      clear hrow
      go_wp2
      go_roundg (n - (j + 1))
      case measure => go_light; omega
      case rel =>
        go_light
        refine ⟨j + 1, by omega, rfl, by go_num, ?_, hQ.trans hQ2⟩
        rw [HI.out]
    · have hz : ¬ (j : Int) < (n : Int) := by omega
      have hkn : j = n := by omega
      have Hk := Lib.hid hkn
      clear hkn
      go_wp2
      go_ret
      exact ⟨ret_int (by rw [List.take_of_length_le (by have := Hl.out; have := Hk.out; rw [markR_length] at *; omega)]), hQ⟩
end Go.Proofs.YtnimmkfkijcbbaaDoor
