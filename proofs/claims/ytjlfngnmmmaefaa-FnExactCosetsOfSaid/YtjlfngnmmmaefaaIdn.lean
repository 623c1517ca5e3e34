/- The list 0, 1, .. of both. Conditions: none. -/
import Derived.Test.YtjlfngnmmmaefaaPermP
import Derived.Test.YtjlfngnmmmaefaaTo
namespace Go.Proofs.Ytjlfngnmmmaefaa
open Go.RowKit

theorem upto_take_succ {n k : Nat} (hk : k < n) : (upto k ++ List.replicate (n - k) 0).set k (k : Int) = upto (k + 1) ++ List.replicate (n - (k + 1)) 0 := by
  rw [upto_succ, take_set_drop' (by rw [upto_length]) hk]

set_option maxHeartbeats 800000 in
theorem identity_any (n : Nat) (w : World) (hn : n ≤ 1048576) :
    Calls Try.prog 95 #[.int .i64 n] w (RetI w (upto n)) := by
  have hmk := run_make_row' (P := Try.prog) 26 2 (.int .i64 0) 8 Try.underlying26 Try.info_i64 rfl .i64 .i64 n (by omega) (by omega)
  go_enter Try.func95, Try.ntmps95
  go_wp2
  clear hmk
  have H0 := own_made w 2 (Value.int .i64) 0 n (by omega)
  go_loopg [9] n (fun g i wr => ∃ k : Nat, k ≤ n ∧ g = n - k ∧ i = .int .i64 k ∧ OwnI wr w.heap.size (some ⟨w.heap.size, 0, none⟩) n n (upto k ++ List.replicate (n - k) 0) ∧ Ext w wr)
  case atStart => exact ⟨0, Nat.zero_le _, rfl, rfl, H0, (Ext.refl w).alloc _⟩
  case round =>
    obtain ⟨k, hk, rfl, rfl, hO, hE⟩ := hrel
    clear H0
    by_cases hlt : k < n
    · obtain ⟨g, z, hg, hB, hoc, hof, Hz⟩ := hO.at_ hlt
      cases hg
      have hz : (k : Int) < (n : Int) := by omega
      have hO' := hO.set (k := k) rfl (k : Int)
      rw [upto_take_succ hlt] at hO'
      have hE' := hE.setCell (p := ⟨w.heap.size, k, none⟩) (Nat.le_refl _) (.int .i64 k)
      clear hO hE
      go_wp2
      go_roundg (n - (k + 1))
      case measure => go_light; omega
      case rel => go_light; exact ⟨k + 1, by omega, rfl, by go_num, hO', hE'⟩
    · have hz : ¬ (k : Int) < (n : Int) := by omega
      have hkn : k = n := by omega
      have Hk := Lib.hid hkn
      clear hkn
      go_wp2
      go_ret
      have := Hk.out
      subst this
      rw [Nat.sub_self, List.replicate_zero, List.append_nil] at hO
      exact ⟨_, _, _, rfl, hO, hE⟩

set_option maxHeartbeats 800000 in
theorem l04One_any (n : Nat) (w : World) (hn : n ≤ 1048576) :
    Calls Try.prog 90 #[.int .i64 n] w (RetI w (upto n)) := by
  go_enter Try.func90, Try.ntmps90
  go_wp2
  have H0 := Own.empty 2 (Value.int .i64) w
  go_loopg [3, 4] n (fun g s i wr => ∃ (k : Nat) (ad : Option Addr) (d : Nat), k ≤ n ∧ g = n - k ∧ i = .int .i64 k ∧ s = .slice ad k d ∧ OwnI wr w.heap.size ad k d (upto k) ∧ Ext w wr)
  case atStart => exact ⟨0, _, 0, Nat.zero_le _, rfl, rfl, rfl, H0, (Ext.refl w).alloc _⟩
  case round =>
    obtain ⟨k, ad, d, hk, rfl, rfl, rfl, hO, hE⟩ := hrel
    clear H0
    by_cases hlt : k < n
    · have hz : (k : Int) < (n : Int) := by omega
      have hsz := hE.size
      go_wp2_with (at_builtin; refine app_I rfl _ _ rfl hO hsz rfl (by omega) rfl rfl ?_; intro ad' d' w3 hrow honly hmv)
      have hE3 := hE.app hO honly (Nat.le_refl _)
      rw [← upto_succ] at hrow
      clear hO hE honly hmv hsz
      go_wp2
      go_roundg (n - (k + 1))
      case measure => go_light; omega
      case rel => go_light; exact ⟨k + 1, ad', d', by omega, rfl, by go_num, rfl, hrow, hE3⟩
    · have hz : ¬ (k : Int) < (n : Int) := by omega
      obtain rfl : n = k := by omega
      go_wp2
      go_ret
      exact ⟨_, _, _, rfl, hO, hE⟩
end Go.Proofs.Ytjlfngnmmmaefaa
