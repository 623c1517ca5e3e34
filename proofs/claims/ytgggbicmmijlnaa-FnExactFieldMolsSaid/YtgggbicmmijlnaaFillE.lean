/- Squares that are filled by a function that makes memory. Conditions: none. -/
import Derived.Test.YtgggbicmmijlnaaFill
namespace Go.Proofs.Ytgggbicmmijlnaa
open Go.RowKit

/-- Calling a function value at (x, y) gives g x y, and changes nothing old. -/
def GivesE (F : FuncId) (cap : Array Value) (n : Nat) (g : Nat → Nat → Int) (w : World) : Prop :=
  ∀ (x y : Nat) (w1 : World), x < n → y < n → Ext w w1 → Calls Try.prog F (#[.int .i64 x, .int .i64 y] ++ cap) w1 fun e w2 => e = .returned (.int .i64 (g x y)) ∧ Ext w1 w2

set_option maxHeartbeats 800000 in
set_option maxRecDepth 100000 in
theorem filledE (n : Nat) (F : FuncId) (cap : Array Value) (g : Nat → Nat → Int) (w : World) (hn : n ≤ 1000000) (hF : Enters F) (hg : GivesE F cap n g w) :
    Calls Try.prog 51 #[.int .i64 n, .func (.func F) #[] cap] w (RetR w (sq n g)) := by
  have hen : ∀ (args : Array Value) (w : World), (callFunc F args).run Try.prog w = .ok (.enter F args) w := hF
  go_enter Try.func51, Try.ntmps51
  go_wp2
  go_loopg [5, 6] n (fun gh s i wr => ∃ (k : Nat) (a : Option Addr) (c : Nat) (rs : List Row), k ≤ n ∧ gh = n - k ∧ i = .int .i64 k ∧ s = .slice a k c ∧ OwnR wr w.heap.size a k c ((List.range k).map fun x => (List.range n).map fun y => g x y) rs ∧ Ext w wr)
  case atStart => exact ⟨0, none, 0, [], Nat.zero_le _, rfl, rfl, rfl, OwnR.nil_ _ _, Ext.refl _⟩
  case round =>
    obtain ⟨x, a, c, rs, hx, rfl, rfl, rfl, hO, hE⟩ := hrel
    by_cases hlt : x < n
    · have hz : (x : Int) < (n : Int) := by omega
      go_wp2
      have hO2 := Own2.start hO
      clear hO
      go_loopg [7, 8] n (fun gh s i wi => ∃ (y : Nat) (ad : Option Addr) (d : Nat), y ≤ n ∧ gh = n - y ∧ i = .int .i64 y ∧ s = .slice ad y d ∧ Own2 wi w.heap.size a x c ((List.range x).map fun x => (List.range n).map fun y => g x y) rs ad y d ((List.range y).map fun y => g x y) ∧ Ext w wi)
      case atStart => exact ⟨0, none, 0, Nat.zero_le _, rfl, rfl, rfl, hO2, hE⟩
      case round =>
        obtain ⟨y, ad, d, hy, rfl, rfl, rfl, hO, hEi⟩ := hrel
        clear hO2 hE
        by_cases hly : y < n
        · have hz : (y : Int) < (n : Int) := by omega
          go_wp2_with fail
          refine (hg x y _ hlt hly hEi).mono ?_
          rintro e w2 ⟨rfl, hE9⟩
          have hO2 := hO.ext hE9
          have hE2 := hEi.trans hE9
          have hsz := hE2.size
          clear hO hEi hE9
          go_wp2_with (at_builtin; refine app_I rfl _ _ rfl hO2.row hsz rfl (by omega) rfl rfl ?_; intro ad' d' w3 hrow honly hmv)
          have hO3 := hO2.app hrow honly hmv
          have hE3 := hE2.app hO2.row honly (Nat.le_refl _)
          rw [sq_row_step] at hO3
          clear hO2 hE2 hrow honly hmv hsz
          go_wp2
          go_roundg (n - (y + 1))
          case measure => go_light; omega
          case rel => go_light; exact ⟨y + 1, ad', d', by omega, rfl, by go_num, rfl, hO3, hE3⟩
        · have hz : ¬ (y : Int) < (n : Int) := by omega
          obtain rfl : y = n := by omega
          have hsz := hEi.size
          go_wp2_with (at_builtin; refine app_S rfl _ _ rfl hO.rows hsz hO.row hO.apart rfl (by omega) rfl rfl ?_; intro a' c' w3 hrows honly hmv)
          have hE3 := hEi.app hO.rows.top honly (Nat.le_refl _)
          have e : ((List.range x).map fun x => (List.range y).map fun y => g x y) ++ [(List.range y).map fun y => g x y] = (List.range (x + 1)).map fun x => (List.range y).map fun y => g x y := by rw [List.range_succ, List.map_append]; rfl
          rw [e] at hrows
          clear hO hEi honly hmv hsz e
          go_wp2
          go_roundg (y - (x + 1))
          case measure => go_light; omega
          case rel => go_light; exact ⟨x + 1, a', c', _, by omega, rfl, by go_num, rfl, hrows, hE3⟩
    · have hz : ¬ (x : Int) < (n : Int) := by omega
      obtain rfl : x = n := by omega
      go_wp2
      go_ret
      exact ⟨_, _, _, _, rfl, hO, hE⟩
end Go.Proofs.Ytgggbicmmijlnaa
