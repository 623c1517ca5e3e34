/- forAll: a condition on all numbers of a square. Conditions: none. -/
import Derived.Test.YtkapkieeafhaoaaGet
import Derived.Test.YtkapkieeafhaoaaEnt
namespace Go.Proofs.Ytkapkieeafhaoaa
open Go.RowKit

/-- A function value that is asked of numbers below n: what it answers. -/
def AskN (F : FuncId) (cap : Array Value) (n : Nat) (g : Nat → Bool) (w : World) : Prop :=
  ∀ (x : Nat) (w1 : World), x < n → Ext w w1 → Calls Try.prog F (#[.int .i64 x] ++ cap) w1 fun e w2 => e = .returned (.bool (g x)) ∧ Ext w1 w2

theorem AskN.ext {F : FuncId} {cap : Array Value} {n : Nat} {g : Nat → Bool} {w w' : World} (h : AskN F cap n g w) (k : Ext w w') : AskN F cap n g w' :=
  fun x w1 hx hE => h x w1 hx (k.trans hE)

/-- All numbers below n. -/
def AllN (n : Nat) (g : Nat → Bool) : Prop := ∀ x, x < n → g x = true

set_option maxHeartbeats 800000 in
theorem forAll_any (a : Option Addr) (n c : Nat) (F : FuncId) (cap : Array Value) (g : Nat → Bool) (w : World) (h1 : n ≤ 9223372036854775807) (hF : Enters F) (hg : AskN F cap n g w) :
    Calls Try.prog 60 #[.slice a n c, .func (.func F) #[] cap] w fun e w' => e = .returned (.bool (pb (AllN n g))) ∧ Ext w w' := by
  have hen : ∀ (args : Array Value) (w : World), (callFunc F args).run Try.prog w = .ok (.enter F args) w := hF
  have Hg := Lib.hid hg
  clear hg
  go_enter Try.func60, Try.ntmps60
  go_wp2
  go_loopg [8] n (fun gh i wr => ∃ k : Nat, k ≤ n ∧ gh = n - k ∧ i = .int .i64 k ∧ Ext w wr ∧ Hid (∀ x, x < k → g x = true))
  case atStart => exact ⟨0, Nat.zero_le _, rfl, rfl, Ext.refl _, fun x h => absurd h (Nat.not_lt_zero _)⟩
  case round =>
    obtain ⟨k, hk, rfl, rfl, hE, Hn⟩ := hrel
    by_cases hlt : k < n
    · have hz : (k : Int) < (n : Int) := by omega
      go_wp2_with fail
      refine (Hg.out k wr hlt hE).mono ?_
      rintro e w2 ⟨rfl, hE2⟩
      obtain ⟨v, hv⟩ : ∃ v, g k = v := ⟨_, rfl⟩
      rw [hv]
      have Hv := Lib.hid hv
      clear hv
      cases v
      · go_wp2
        go_ret
        exact ⟨ret_npb (fun h => by have := h k hlt; rw [Hv.out] at this; cases this), hE.trans hE2⟩
      · go_wp2
        go_roundg (n - (k + 1))
        case measure => go_light; omega
        case rel => go_light; exact ⟨k + 1, by omega, rfl, by go_num, hE.trans hE2, fun x hx => by
          by_cases e : x = k
          · subst e; exact Hv.out
          · exact Hn.out x (by omega)⟩
    · have hz : ¬ (k : Int) < (n : Int) := by omega
      obtain rfl : n = k := by omega
      go_wp2
      go_ret
      exact ⟨ret_pb Hn.out, hE⟩
end Go.Proofs.Ytkapkieeafhaoaa
