/- ValidPermutation and arePermutations. Conditions: none. -/
import Derived.Test.YtnimmkfkijcbbaaDoorSrt
import Derived.Test.YtnimmkfkijcbbaaDoorOwnL
import Derived.Test.YtnimmkfkijcbbaaDoorSl
namespace Go.Proofs.YtnimmkfkijcbbaaDoor
open Go.RowKit

set_option maxHeartbeats 1600000 in
theorem validPerm_any (a : Option Addr) (n c : Nat) (xs : List Int) (w : World) (hx : RdI w a n c xs) (hn : n ≤ 1099511627775) :
    Calls Tryd.prog 49 #[.slice a n c] w fun e w' => e = .returned (.bool (pb (PermOk xs))) ∧ Ext w w' := by
  have hb1 := hx.le
  have hb2 := hx.max
  have Hx := Lib.hid hx.len
  go_enter Tryd.func49, Tryd.ntmps49
  go_wp2_with fail
  refine (slClone_any _ _ _ xs _ hx hn).mono ?_
  rintro e w1 ⟨a1, n1, c1, rfl, hO1, hE1⟩
  obtain rfl : n = n1 := by rw [Hx.out, hO1.len]
  go_wp2_with fail
  refine (slSort_any _ hO1 (by omega)).mono ?_
  rintro e w2 ⟨rfl, hO2, hL2⟩
  have hE2 := hE1.app hO1 hL2 (Nat.le_refl _)
  have hR := hO2.rdI
  have hle := hR.le
  have hmax := hR.max
  clear hO1 hE1 hO2 hL2
  go_wp2
  go_loopg [12] n (fun g i wr => ∃ k : Nat, k ≤ n ∧ g = n - k ∧ i = .int .i64 k ∧ w2 = wr ∧ Hid (∀ j, j < k → gi (xs.mergeSort leb) j = j))
  case atStart => exact ⟨0, Nat.zero_le _, rfl, rfl, rfl, fun j h => absurd h (Nat.not_lt_zero _)⟩
  case round =>
    obtain ⟨k, hk, rfl, rfl, rfl, Hp⟩ := hrel
    by_cases hlt : k < n
    · obtain ⟨b, o, rfl, hc⟩ := hR.gi hlt
      have hz : (k : Int) < (n : Int) := by omega
      by_cases he : gi (xs.mergeSort leb) k = k
      · have he1 : (gi (xs.mergeSort leb) k != (k : Int)) = false := by simp [he]
        have He := Lib.hid he
        clear he
        go_wp2
        go_roundg (n - (k + 1))
        case measure => go_light; omega
        case rel => go_light; exact ⟨k + 1, by omega, rfl, by go_num, rfl, fun j hj => by
          by_cases e : j = k
          · subst e; exact He.out
          · exact Hp.out j (by omega)⟩
      · have he1 : (gi (xs.mergeSort leb) k != (k : Int)) = true := by simp [he]
        have He := Lib.hid he
        clear he
        go_wp2
        go_ret
        exact ⟨ret_npb (fun h => He.out (by rw [sort_perm.2 h.2, gi_upto (by rw [← Hx.out]; exact hlt)])), hE2⟩
    · have hz : ¬ (k : Int) < (n : Int) := by omega
      obtain rfl : n = k := by omega
      have hperm : IsPerm xs := sort_perm.1 (list_ext_gi (by rw [List.length_mergeSort, upto_length]) (fun j hj => by
        rw [List.length_mergeSort] at hj
        rw [Hp.out j (by rw [Hx.out]; exact hj), gi_upto hj]))
      have Hperm := Lib.hid hperm
      clear hperm
      by_cases h32 : n ≤ 32
      · have h1 : decide ((n : Int) ≤ 32) = true := by simp; omega
        go_wp2
        go_ret
        exact ⟨ret_pb ⟨by rw [← Hx.out]; exact h32, Hperm.out⟩, hE2⟩
      · have h1 : decide ((n : Int) ≤ 32) = false := by simp; omega
        go_wp2
        go_ret
        exact ⟨ret_npb (fun h => h32 (by rw [Hx.out]; exact h.1)), hE2⟩

/-- Not a permutation of a degree. -/
noncomputable def badPerm (d : Int) (xs : List Int) : Bool := pb (¬ ((xs.length : Int) = d ∧ PermOk xs))

set_option maxHeartbeats 1600000 in
theorem arePermF (d : Int) (b1 : Nat) (xss : List (List Int)) (w : World) (hd : d ≤ 1099511627775) (hc1 : w.cell? ⟨b1, 0, none⟩ = some (.int .i64 d)) :
    Asks 61 #[.pointer (some ⟨b1, 0, none⟩)] xss (badPerm d) w := by
  intro i xs a n c w1 hi hE hx
  have hd1 := hE.cell hc1
  clear hc1
  have Hl := Lib.hid hx.len
  show Calls Tryd.prog 61 #[.slice a n c, .pointer (some ⟨b1, 0, none⟩)] w1 _
  by_cases h1 : (n : Int) = d
  · have h1' : ((n : Int) != d) = false := by simp [h1]
    have hn : n ≤ 1099511627775 := by omega
    have H1 := Lib.hid h1
    clear h1 hd
    go_enter Tryd.func61, Tryd.ntmps61
    go_wp2_with fail
    go_region_held3 (fun w' => w'.cell? ⟨b1, 0, none⟩ = some (.int .i64 d)) (first | exact hd1 | exact Ext.cell (Ext.trans ((Ext.refl _).drew) hE2) hd1)
      (first
        | (go_at_call 38; refine (sizeI_any _ _ _ _).mono ?_; rintro e w2 ⟨rfl, rfl⟩)
        | (go_at_call 49; refine (validPerm_any _ _ _ xs _ (RdI.ext hx ((Ext.refl _).drew)) hn).mono ?_; rintro e w2 ⟨rfl, hE2⟩))
    go_wp2
    go_ret
    refine ⟨ret_bool ?_, Ext.trans ((Ext.refl _).drew) hE2⟩
    by_cases h : PermOk xs
    · rw [pb_true h, badPerm, pb_false (fun h2 => h2 ⟨by rw [← Hl.out]; exact H1.out, h⟩)]; rfl
    · rw [pb_false h, badPerm, pb_true (fun h2 => h h2.2)]; rfl
  · have h1' : ((n : Int) != d) = true := by simp [h1]
    have H1 := Lib.hid h1
    clear h1 hd
    go_enter Tryd.func61, Tryd.ntmps61
    go_wp2_with fail
    go_quiet ((go_at_call 38; exact quiet_same (sizeI_any _ _ _ _)))
    go_wp2
    go_ret
    refine ⟨ret_bool ?_, (Ext.refl _).drewN _⟩
    rw [badPerm, pb_true (fun h2 => H1.out (by rw [Hl.out]; exact h2.1))]

/-- All rows are permutations of a degree. -/
def AllPerm (d : Int) (p : List (List Int)) : Prop := ∀ xs, xs ∈ p → (xs.length : Int) = d ∧ PermOk xs

theorem any_bad {d : Int} {p : List (List Int)} : p.any (badPerm d) = pb (¬ AllPerm d p) := by
  by_cases h : AllPerm d p
  · rw [pb_false (fun h2 => h2 h), List.any_eq_false]
    intro xs hm
    rw [badPerm, pb_false (fun h2 => h2 (h xs hm))]
    decide
  · rw [pb_true h, List.any_eq_true]
    apply Classical.byContradiction
    intro hn
    apply h
    intro xs hm
    apply Classical.byContradiction
    intro h2
    exact hn ⟨xs, hm, by rw [badPerm, pb_true h2]⟩

set_option maxHeartbeats 400000 in
theorem arePerm_any (d : Int) (a : Option Addr) (n c : Nat) (p : List (List Int)) (w : World) (hx : RdR w a n c p) (hd : d ≤ 1099511627775) :
    Calls Tryd.prog 48 #[.int .i64 d, .slice a n c] w fun e w' => e = .returned (.bool (pb (AllPerm d p))) ∧ Ext w w' := by
  have hmf : ∀ (fn : Fn) (first cap : Array Value) (w : World), (Instr.makeFunc fn first cap).run Tryd.prog w = .ok (.func fn first cap) w := fun _ _ _ _ => rfl
  go_enter Tryd.func48, Tryd.ntmps48
  go_wp2_with fail
  refine (slContainsFunc_any _ _ _ p _ _ _ _ _ (hx.ext ((Ext.refl w).alloc _)) (enters_of Tryd.func61 (by kernel_rfl) (by kernel_rfl)) (arePermF d _ p _ hd (by simp)) any_bad).mono ?_
  rintro e w2 ⟨rfl, hE⟩
  go_wp2
  go_ret
  refine ⟨ret_bool ?_, Ext.trans ((Ext.refl _).alloc _) hE⟩
  by_cases h : AllPerm d p
  · rw [pb_true h, pb_false (fun h2 => h2 h)]; rfl
  · rw [pb_false h, pb_true h]; rfl

end Go.Proofs.YtnimmkfkijcbbaaDoor
