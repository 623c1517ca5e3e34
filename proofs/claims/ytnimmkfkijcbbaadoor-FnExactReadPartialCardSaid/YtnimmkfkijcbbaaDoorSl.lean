/- size, slices.Index, slices.Contains, slices.IndexFunc, slices.ContainsFunc. Conditions: none. -/
import Derived.Test.YtnimmkfkijcbbaaDoorEnt
namespace Go.Proofs.YtnimmkfkijcbbaaDoor
open Go.RowKit

set_option maxHeartbeats 400000 in
theorem sizeR_any (a : Option Addr) (n c : Nat) (w : World) : Calls Tryd.prog 36 #[.slice a n c] w fun e w' => e = .returned (.int .i64 n) ∧ w = w' := by
  go_enter Tryd.func36, Tryd.ntmps36
  go_wp2
  go_ret
  exact ⟨rfl, rfl⟩

set_option maxHeartbeats 400000 in
theorem sizeI_any (a : Option Addr) (n c : Nat) (w : World) : Calls Tryd.prog 38 #[.slice a n c] w fun e w' => e = .returned (.int .i64 n) ∧ w = w' := by
  go_enter Tryd.func38, Tryd.ntmps38
  go_wp2
  go_ret
  exact ⟨rfl, rfl⟩

/-- The first place of a number in a list, or -1. -/
def FirstAt (xs : List Int) (v r : Int) : Prop := (r = -1 ∧ v ∉ xs) ∨ ∃ k : Nat, r = k ∧ xs[k]? = some v ∧ v ∉ xs.take k

/-- The first place is handed back. -/
def RetAt (w : World) (xs : List Int) (v : Int) (e : Ending) (w' : World) : Prop := ∃ r, e = .returned (.int .i64 r) ∧ FirstAt xs v r ∧ -1 ≤ r ∧ (0 ≤ r ↔ v ∈ xs) ∧ w = w'

set_option maxHeartbeats 400000 in
theorem slIndex_any (a : Option Addr) (n c : Nat) (xs : List Int) (v : Int) (w : World) (hx : RdI w a n c xs) :
    Calls Tryd.prog 50 #[.slice a n c, .int .i64 v] w (RetAt w xs v) := by
  have hb1 := hx.le
  have hb2 := hx.max
  have Hx := Lib.hid hx.len
  go_enter Tryd.func50, Tryd.ntmps50
  go_wp2
  go_loopg [8] n (fun g i wr => ∃ k : Nat, k ≤ n ∧ g = n - k ∧ i = .int .i64 k ∧ w = wr ∧ Hid (∀ y, y ∈ xs.take k → ¬ (v = y)))
  case atStart => exact ⟨0, Nat.zero_le _, rfl, rfl, rfl, fun y hy => by simp at hy⟩
  case round =>
    obtain ⟨k, hk, rfl, rfl, rfl, Hn⟩ := hrel
    by_cases hlt : k < n
    · obtain ⟨b1, o1, x1, rfl, c1, H1⟩ := hx.at_ hlt
      have hz : (k : Int) < (n : Int) := by omega
      by_cases he : v = x1
      · subst he
        have he1 : (v == v) = true := by simp
        go_wp2
        go_ret
        exact ⟨_, rfl, .inr ⟨k, rfl, H1.out, fun hm => Hn.out v hm rfl⟩, by omega, ⟨fun _ => mem_of_get H1.out, fun _ => by omega⟩, rfl⟩
      · have he1 : (v == x1) = false := by simp [he]
        have He := Lib.hid he
        clear he
        go_wp2
        go_roundg (n - (k + 1))
        case measure => go_light; omega
        case rel => go_light; exact ⟨k + 1, by omega, rfl, by go_num, rfl, none_succ Hn.out H1.out He.out⟩
    · have hz : ¬ (k : Int) < (n : Int) := by omega
      go_wp2
      go_ret
      have hn : v ∉ xs := fun hm => Hn.out v (by rw [List.take_of_length_le (by have := Hx.out; omega)]; exact hm) rfl
      exact ⟨_, rfl, .inl ⟨rfl, hn⟩, by omega, ⟨fun h => by omega, fun h => absurd h hn⟩, rfl⟩

set_option maxHeartbeats 400000 in
theorem slContains_any (a : Option Addr) (n c : Nat) (xs : List Int) (v : Int) (b : Bool) (w : World) (hx : RdI w a n c xs) (hb : decide (v ∈ xs) = b) :
    Calls Tryd.prog 39 #[.slice a n c, .int .i64 v] w fun e w' => e = .returned (.bool b) ∧ w = w' := by
  have Hb := Lib.hid hb
  clear hb
  go_enter Tryd.func39, Tryd.ntmps39
  go_wp2_with fail
  refine (slIndex_any _ _ _ xs _ _ hx).mono ?_
  rintro e w2 ⟨r, rfl, _, _, hm, rfl⟩
  have Hm := Lib.hid hm
  clear hm
  go_wp2
  go_ret
  exact ⟨ret_bool (by rw [← Hb.out]; exact decide_eq_decide.2 Hm.out), rfl⟩

/-- A function value that is asked of rows: what it answers of each of them. -/
def Asks (F : FuncId) (cap : Array Value) (xss : List (List Int)) (f : List Int → Bool) (w : World) : Prop :=
  ∀ (i : Nat) (xs : List Int) (a : Option Addr) (n c : Nat) (w1 : World), xss[i]? = some xs → Ext w w1 → RdI w1 a n c xs → Calls Tryd.prog F (#[.slice a n c] ++ cap) w1 fun e w2 => e = .returned (.bool (f xs)) ∧ Ext w1 w2

/-- The first place of a row with a property, or -1. -/
def FirstR (xss : List (List Int)) (f : List Int → Bool) (r : Int) : Prop := (r = -1 ∧ ∀ xs, xs ∈ xss → f xs = false) ∨ ∃ (k : Nat) (xs : List Int), r = k ∧ xss[k]? = some xs ∧ f xs = true ∧ ∀ ys, ys ∈ xss.take k → f ys = false

def RetAtR (w : World) (xss : List (List Int)) (f : List Int → Bool) (e : Ending) (w' : World) : Prop := ∃ r, e = .returned (.int .i64 r) ∧ FirstR xss f r ∧ -1 ≤ r ∧ ((decide (0 ≤ r)) = xss.any f) ∧ Ext w w'

set_option maxHeartbeats 800000 in
theorem slIndexFunc_any (a : Option Addr) (n c : Nat) (xss : List (List Int)) (F : FuncId) (cap : Array Value) (f : List Int → Bool) (w : World) (hx : RdR w a n c xss) (hF : Enters F) (hf : Asks F cap xss f w) :
    Calls Tryd.prog 64 #[.slice a n c, .func (.func F) #[] cap] w (RetAtR w xss f) := by
  have hb1 := hx.le
  have hb2 := hx.max
  have Hx := Lib.hid hx.len
  have Hf := Lib.hid hf
  clear hf
  have hen : ∀ (args : Array Value) (w : World), (callFunc F args).run Tryd.prog w = .ok (.enter F args) w := hF
  go_enter Tryd.func64, Tryd.ntmps64
  go_wp2
  go_loopg [8] n (fun g i wr => ∃ k : Nat, k ≤ n ∧ g = n - k ∧ i = .int .i64 k ∧ Ext w wr ∧ Hid (∀ y, y ∈ xss.take k → ¬ (f y = true)))
  case atStart => exact ⟨0, Nat.zero_le _, rfl, rfl, Ext.refl _, fun y hy => by simp at hy⟩
  case round =>
    obtain ⟨k, hk, rfl, rfl, hE, Hn⟩ := hrel
    by_cases hlt : k < n
    · obtain ⟨b1, o1, ai, ni, ci, xs, rfl, c1, hrow, H1⟩ := (hx.ext hE).at_ hlt
      have hz : (k : Int) < (n : Int) := by omega
      go_wp2_with fail
      refine (Hf.out k xs ai ni ci wr H1.out hE hrow).mono ?_
      rintro e w2 ⟨rfl, hE2⟩
      obtain ⟨v, hv⟩ : ∃ v, f xs = v := ⟨_, rfl⟩
      rw [hv]
      have Hv := Lib.hid hv
      clear hv
      cases v
      · go_wp2
        go_roundg (n - (k + 1))
        case measure => go_light; omega
        case rel => go_light; exact ⟨k + 1, by omega, rfl, by go_num, hE.trans hE2, none_succ Hn.out H1.out (by rw [Hv.out]; decide)⟩
      · go_wp2
        go_ret
        exact ⟨_, rfl, .inr ⟨k, xs, rfl, H1.out, Hv.out, fun ys hy => by simpa using Hn.out ys hy⟩, by omega, by rw [decide_eq_true (by omega)]; exact (List.any_eq_true.2 ⟨xs, mem_of_get H1.out, Hv.out⟩).symm, hE.trans hE2⟩
    · have hz : ¬ (k : Int) < (n : Int) := by omega
      go_wp2
      go_ret
      have hn : ∀ y, y ∈ xss → ¬ (f y = true) := fun y hm => Hn.out y (by rw [List.take_of_length_le (by have := Hx.out; omega)]; exact hm)
      exact ⟨_, rfl, .inl ⟨rfl, fun y hy => by simpa using hn y hy⟩, by omega, by rw [decide_eq_false (by omega)]; exact (List.any_eq_false.2 hn).symm, hE⟩

set_option maxHeartbeats 400000 in
theorem slContainsFunc_any (a : Option Addr) (n c : Nat) (xss : List (List Int)) (F : FuncId) (cap : Array Value) (f : List Int → Bool) (b : Bool) (w : World) (hx : RdR w a n c xss) (hF : Enters F) (hf : Asks F cap xss f w) (hb : xss.any f = b) :
    Calls Tryd.prog 51 #[.slice a n c, .func (.func F) #[] cap] w fun e w' => e = .returned (.bool b) ∧ Ext w w' := by
  have Hb := Lib.hid hb
  have Hf := Lib.hid hf
  clear hb hf
  go_enter Tryd.func51, Tryd.ntmps51
  go_wp2_with fail
  refine (slIndexFunc_any _ _ _ xss F cap f _ hx hF Hf.out).mono ?_
  rintro e w2 ⟨r, rfl, _, _, hm, hE⟩
  have Hm := Lib.hid hm
  clear hm
  go_wp2
  go_ret
  exact ⟨ret_bool (by rw [← Hb.out]; exact Hm.out), hE⟩

end Go.Proofs.YtnimmkfkijcbbaaDoor
