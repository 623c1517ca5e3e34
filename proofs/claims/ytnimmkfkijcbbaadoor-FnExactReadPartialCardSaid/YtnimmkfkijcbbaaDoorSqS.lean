/- l06Ok says whether rows are a square. Conditions: none. -/
import Derived.Test.YtnimmkfkijcbbaaDoorSqP
import Derived.Test.YtnimmkfkijcbbaaDoorPermS
import Derived.Test.YtnimmkfkijcbbaaDoorApp
namespace Go.Proofs.YtnimmkfkijcbbaaDoor
open Go.RowKit

set_option maxRecDepth 100000 in
set_option maxHeartbeats 4000000 in
theorem l06Ok_any (a : Option Addr) (n c : Nat) (p : List (List Int)) (w : World) (hx : RdR w a n c p) :
    Calls Tryd.prog 33 #[.slice a n c] w fun e w' => e = .returned (.bool (pb (SqOk p))) ∧ Ext w w' := by
  have hb1 := hx.le
  have hb2 := hx.max
  have Hx := Lib.hid hx.len
  by_cases h1 : n < 1
  · have h1' : (n : Int) < 1 := by omega
    go_enter Tryd.func33, Tryd.ntmps33
    go_wp2
    go_ret
    exact ⟨ret_npb (fun h => by have := h.1; have := Hx.out; omega), Ext.refl _⟩
  by_cases h2 : 10 < n
  · have h2' : (10 : Int) < n := by omega
    go_enter Tryd.func33, Tryd.ntmps33
    go_wp2
    go_ret
    exact ⟨ret_npb (fun h => by have := h.2.1; have := Hx.out; omega), Ext.refl _⟩
  go_enter Tryd.func33, Tryd.ntmps33
  go_wp2
  go_loopg [4] n (fun g i wr => ∃ k : Nat, k ≤ n ∧ g = n - k ∧ i = .int .i64 k ∧ Ext w wr ∧ Hid (∀ x, x < k → (gr p x).length = n ∧ IsPerm (gr p x)))
  case atStart => exact ⟨0, Nat.zero_le _, rfl, rfl, Ext.refl _, fun x h => absurd h (Nat.not_lt_zero _)⟩
  case round =>
    obtain ⟨k, hk, rfl, rfl, hE, Hl⟩ := hrel
    by_cases hlt : k < n
    · obtain ⟨b, o, ai, ni, ci, rfl, hc, hrow⟩ := (hx.ext hE).gr hlt
      have hz : (k : Int) < (n : Int) := by omega
      have Hni := Lib.hid hrow.len
      by_cases he : ni = n
      · subst he
        have he1 : ((ni : Int) != (ni : Int)) = false := by simp
        go_wp2_with fail
        refine (l04Ok_any _ _ _ _ _ hrow).mono ?_
        rintro e w2 ⟨rfl, hQ⟩
        by_cases hp : PermOk (gr p k)
        · rw [pb_true hp]
          have Hp := Lib.hid hp
          clear hp hrow
          go_wp2
          go_roundg (ni - (k + 1))
          case measure => go_light; omega
          case rel => go_light; exact ⟨k + 1, by omega, rfl, by go_num, hE.trans hQ.ext, fun x h => by
            by_cases e : x = k
            · subst e; exact ⟨Hni.out.symm, Hp.out.2⟩
            · exact Hl.out x (by omega)⟩
        · rw [pb_false hp]
          have Hp := Lib.hid hp
          clear hp hrow
          go_wp2
          go_ret
          exact ⟨ret_npb (fun h => Hp.out (PermOk.of (h.2.2.2.1 k (by have := Hx.out; omega)) (by rw [← Hni.out]; omega))), hE.trans hQ.ext⟩
      · have he1 : ((ni : Int) != (n : Int)) = true := by simp; omega
        have He := Lib.hid he
        clear he hrow
        go_wp2
        go_ret
        exact ⟨ret_npb (fun h => He.out (by rw [Hni.out, h.2.2.1.2 k (by have := Hx.out; omega), ← Hx.out])), hE⟩
    · have hz : ¬ (k : Int) < (n : Int) := by omega
      obtain rfl : n = k := by omega
      have hrect : Rect p n n := ⟨Hx.out.symm, fun x hx => (Hl.out x hx).1⟩
      have Hrect := Lib.hid hrect
      clear hrect
      go_wp2
      go_loopg [5, 6, 7] n (fun g i _ _ wr => ∃ k : Nat, k ≤ n ∧ g = n - k ∧ i = .int .i64 k ∧ Ext w wr ∧ Hid (∀ y, y < k → IsPerm (col p n y)))
      case atStart => exact ⟨0, Nat.zero_le _, rfl, rfl, hE, fun y h => absurd h (Nat.not_lt_zero _)⟩
      case round =>
        obtain ⟨y, hyk, rfl, rfl, hEy, Hc⟩ := hrel
        clear hE
        by_cases hly : y < n
        · have hz : (y : Int) < (n : Int) := by omega
          go_wp2
          have H0 := Own.empty 2 (Value.int .i64) wr
          obtain ⟨wo, rfl⟩ : ∃ wo : World, wo = wr := ⟨_, rfl⟩
          go_loopg [6, 7] n (fun g s i wi => ∃ (k : Nat) (ad : Option Addr) (d : Nat), k ≤ n ∧ g = n - k ∧ i = .int .i64 k ∧ s = .slice ad k d ∧ OwnI wi wo.heap.size ad k d (col p k y) ∧ Ext wo wi)
          case atStart => exact ⟨0, _, 0, Nat.zero_le _, rfl, rfl, rfl, H0, (Ext.refl _).alloc _⟩
          case round =>
            obtain ⟨x, ad, d, hxk, rfl, rfl, rfl, hO, hEx⟩ := hrel
            clear H0
            by_cases hlx : x < n
            · have hz : (x : Int) < (n : Int) := by omega
              obtain ⟨b, o, ai, ci, rfl, hc, hrow⟩ := (hx.ext (hEy.trans hEx)).row Hrect.out hlx
              obtain ⟨b1, o1, rfl, hc1⟩ := hrow.cell2 hly
              have hsz := hEx.size
              clear hrow
              go_wp2_with (at_builtin; refine app_I rfl _ _ rfl hO hsz rfl (by omega) rfl rfl ?_; intro ad' d' w3 hrow honly hmv)
              have hE3 := hEx.app hO honly (Nat.le_refl _)
              rw [← col_succ] at hrow
              clear hO hEx honly hmv hsz
              go_wp2
              go_roundg (n - (x + 1))
              case measure => go_light; omega
              case rel => go_light; exact ⟨x + 1, ad', d', by omega, rfl, by go_num, rfl, hrow, hE3⟩
            · have hz : ¬ (x : Int) < (n : Int) := by omega
              obtain rfl : n = x := by omega
              go_wp2_with fail
              refine (l04Ok_any _ _ _ _ _ hO.rdI).mono ?_
              rintro e w2 ⟨rfl, hQ⟩
              have hEn := (hEy.trans hEx).trans hQ.ext
              clear hEy hEx hO
              by_cases hp : PermOk (col p n y)
              · rw [pb_true hp]
                have Hp := Lib.hid hp
                clear hp
                go_wp2
                go_roundg (n - (y + 1))
                case measure => go_light; omega
                case rel => go_light; exact ⟨y + 1, by omega, rfl, by go_num, hEn, fun j hj => by
                  by_cases e : j = y
                  · subst e; exact Hp.out.2
                  · exact Hc.out j (by omega)⟩
              · rw [pb_false hp]
                have Hp := Lib.hid hp
                clear hp
                go_wp2
                go_ret
                exact ⟨ret_npb (fun h => Hp.out (PermOk.of (by rw [Hx.out]; exact h.2.2.2.2 y (by have := Hx.out; omega)) (by rw [col_length]; omega))), hEn⟩
        · have hz : ¬ (y : Int) < (n : Int) := by omega
          obtain rfl : n = y := by omega
          go_wp2
          go_ret
          have e := Hx.out
          exact ⟨ret_pb ⟨by omega, by omega, by rw [← e]; exact Hrect.out, fun x hx => (Hl.out x (by omega)).2, fun y hy => by rw [← e]; exact Hc.out y (by omega)⟩, hEy⟩
end Go.Proofs.YtnimmkfkijcbbaaDoor
