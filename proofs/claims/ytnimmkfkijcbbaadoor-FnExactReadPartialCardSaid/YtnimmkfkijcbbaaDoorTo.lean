/- The laws' copies. Conditions: none. -/
import Derived.Test.YtnimmkfkijcbbaaDoorSz
import Derived.Test.YtnimmkfkijcbbaaDoorApp
namespace Go.Proofs.YtnimmkfkijcbbaaDoor
open Go.RowKit


theorem take_set_drop {α : Type} {xs : List α} {z : α} {n k : Nat} {x : α} (hx : xs[k]? = some x) (hn : xs.length = n) (hk : k < n) :
    (xs.take k ++ List.replicate (n - k) z).set k x = xs.take (k + 1) ++ List.replicate (n - (k + 1)) z := by
  have hl : (xs.take k).length = k := by rw [List.length_take]; omega
  rw [List.set_append_right _ _ (by omega), hl, Nat.sub_self]
  obtain ⟨hk', rfl⟩ := List.getElem?_eq_some_iff.1 hx
  rw [List.take_succ_eq_append_getElem hk', List.append_assoc]
  congr 1
  rw [show n - k = (n - (k + 1)) + 1 by omega, List.replicate_succ]
  rfl

set_option maxHeartbeats 800000 in
theorem to_S (a : Option Addr) (n c : Nat) (xs : List Int) (w : World) (hx : RdI w a n c xs) (hn : n ≤ 1048576) :
    Calls Tryd.prog 23 #[.slice a n c] w (RetI w xs) := by
  have hmk := run_make_row' (P := Tryd.prog) 32 2 (.int .i64 0) 8 Tryd.underlying32 Tryd.info_i64 rfl .i64 .i64 n (by omega) (by omega)
  have Hl := Lib.hid hx.len
  go_enter Tryd.func23, Tryd.ntmps23
  go_wp2
  clear hmk
  have H0 := own_made w 2 (Value.int .i64) 0 n (by omega)
  go_loopg [4] n (fun g i wr => ∃ k : Nat, k ≤ n ∧ g = n - k ∧ i = .int .i64 k ∧ OwnI wr w.heap.size (some ⟨w.heap.size, 0, none⟩) n n (xs.take k ++ List.replicate (n - k) 0) ∧ Ext w wr)
  case atStart => exact ⟨0, Nat.zero_le _, rfl, rfl, H0, (Ext.refl w).alloc _⟩
  case round =>
    obtain ⟨k, hk, rfl, rfl, hO, hE⟩ := hrel
    clear H0
    by_cases hlt : k < n
    · obtain ⟨b, off, v, rfl, hcell, Hv⟩ := (hx.ext hE).at_ hlt
      obtain ⟨g, z, hg, hB, hoc, hof, Hz⟩ := hO.at_ hlt
      cases hg
      have hz : (k : Int) < (n : Int) := by omega
      have hO' := hO.set (k := k) rfl v
      rw [take_set_drop Hv.out Hl.out.symm hlt] at hO'
      have hE' := hE.setCell (p := ⟨w.heap.size, k, none⟩) (Nat.le_refl _) (.int .i64 v)
      clear hO hE
      go_wp2
      go_roundg (n - (k + 1))
      case measure => go_light; omega
      case rel => go_light; exact ⟨k + 1, by omega, rfl, by go_num, hO', hE'⟩
    · have hz : ¬ (k : Int) < (n : Int) := by omega
      have hkn : k = n := by omega
      have Hk := Lib.hid hkn
      clear hkn
      go_wp2
      go_ret
      have := Hk.out
      subst this
      rw [List.take_of_length_le (by have := Hl.out; omega), Nat.sub_self, List.replicate_zero, List.append_nil] at hO
      exact ⟨_, _, _, rfl, hO, hE⟩

theorem take_set_drop' {α : Type} {xs : List α} {z : α} {n k : Nat} {x : α} (hn : xs.length = k) (hk : k < n) :
    (xs ++ List.replicate (n - k) z).set k x = (xs ++ [x]) ++ List.replicate (n - (k + 1)) z := by
  subst hn
  rw [List.set_append_right _ _ (Nat.le_refl _), Nat.sub_self, List.append_assoc]
  congr 1
  rw [show n - xs.length = (n - (xs.length + 1)) + 1 by omega, List.replicate_succ]
  rfl

set_option maxHeartbeats 800000 in
theorem to_SS (a : Option Addr) (n c : Nat) (xss : List (List Int)) (w : World) (hx : RdR w a n c xss) (hn : n ≤ 1048576) (ht : tot xss ≤ 1048576) :
    Calls Tryd.prog 9 #[.slice a n c] w (RetR w xss) := by
  have hmk := run_make_row' (P := Tryd.prog) 22 32 (.slice none 0 0) 24 Tryd.underlying22 Tryd.info_S rfl .i64 .i64 n (by omega) (by omega)
  have Hl := Lib.hid hx.len
  go_enter Tryd.func9, Tryd.ntmps9
  go_wp2
  clear hmk
  have H0 := OwnR.made w n (by omega)
  go_loopg [4] n (fun g i wr => ∃ (k : Nat) (rs : List Row), k ≤ n ∧ g = n - k ∧ i = .int .i64 k ∧ Hid (rs.length = k) ∧ OwnR wr w.heap.size (some ⟨w.heap.size, 0, none⟩) n n (xss.take k ++ List.replicate (n - k) []) (rs ++ List.replicate (n - k) (none, 0, 0)) ∧ Ext w wr)
  case atStart => exact ⟨0, [], Nat.zero_le _, rfl, rfl, rfl, H0, (Ext.refl w).alloc _⟩
  case round =>
    obtain ⟨k, rs, hk, rfl, rfl, Hrs, hO, hE⟩ := hrel
    clear H0
    by_cases hlt : k < n
    · obtain ⟨b, off, ai, ni, ci, xs, rfl, hcell, hrow, Hv⟩ := (hx.ext hE).at_ hlt
      have hni : ni ≤ 1048576 := by have := hrow.len; have := len_le_tot Hv.out; omega
      have hz : (k : Int) < (n : Int) := by omega
      go_wp2_with fail
      refine (to_S _ _ _ _ _ hrow hni).mono ?_
      rintro e w2 ⟨a', n', c', rfl, hown, hE2⟩
      have hO2 := hO.ext hE2
      obtain ⟨g, r, ys, hg, hB, hoc, hof, _, _, _⟩ := hO2.at_ hlt
      cases hg
      have hO' := hO2.setRow (k := k) rfl (a', n', c') xs (hown.base (Ext.size hE)) (fun g' hg' hf => by have := (hO.lt hf).2; have := (hown.lt hg').1; omega)
      rw [take_set_drop Hv.out Hl.out.symm hlt, take_set_drop' Hrs.out hlt] at hO'
      have hE' := (hE.trans hE2).setCell (p := ⟨w.heap.size, k, none⟩) (Nat.le_refl _) (.slice a' n' c')
      clear hO hO2 hE hE2 hown
      go_wp2
      go_roundg (n - (k + 1))
      case measure => go_light; omega
      case rel => go_light; exact ⟨k + 1, rs ++ [(a', n', c')], by omega, rfl, by go_num, by have := Hrs.out; simp [Hid, this], hO', hE'⟩
    · have hz : ¬ (k : Int) < (n : Int) := by omega
      have hkn : k = n := by omega
      have Hk := Lib.hid hkn
      clear hkn
      go_wp2
      go_ret
      have := Hk.out
      subst this
      rw [List.take_of_length_le (by have := Hl.out; omega), Nat.sub_self, List.replicate_zero, List.append_nil, List.replicate_zero, List.append_nil] at hO
      exact ⟨_, _, _, _, rfl, hO, hE⟩

end Go.Proofs.YtnimmkfkijcbbaaDoor
