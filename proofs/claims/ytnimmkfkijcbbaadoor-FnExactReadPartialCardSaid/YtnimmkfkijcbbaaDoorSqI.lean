/- ValidSquare says whether rows are a square. Conditions: none. -/
import Derived.Test.YtnimmkfkijcbbaaDoorSqP
import Derived.Test.YtnimmkfkijcbbaaDoorPermI
import Derived.Test.YtnimmkfkijcbbaaDoorIn
namespace Go.Proofs.YtnimmkfkijcbbaaDoor
open Go.RowKit

theorem allPerm_iff {p : List (List Int)} {n : Nat} (hn : p.length = n) (h10 : n ≤ 10) : AllPerm n p ↔ Rect p n n ∧ ∀ x, x < n → IsPerm (gr p x) := by
  constructor
  · intro h
    refine ⟨⟨hn, fun x hx => ?_⟩, fun x hx => ?_⟩
    · have := (h (gr p x) (List.mem_of_getElem? (gr_get (by omega)))).1; omega
    · exact (h (gr p x) (List.mem_of_getElem? (gr_get (by omega)))).2.2
  · rintro ⟨hr, hp⟩ xs hm
    obtain ⟨k, hk, rfl⟩ := mem_gr hm
    have := hr.2 k (by omega)
    exact ⟨by omega, PermOk.of (hp k (by omega)) (by omega)⟩

set_option maxRecDepth 100000 in
set_option maxHeartbeats 4000000 in
theorem validSquare_any (a : Option Addr) (n c : Nat) (p : List (List Int)) (w : World) (hx : RdR w a n c p) :
    Calls Tryd.prog 34 #[.slice a n c] w fun e w' => e = .returned (.bool (pb (SqOk p))) ∧ Ext w w' := by
  have hb1 := hx.le
  have hb2 := hx.max
  have Hx := Lib.hid hx.len
  by_cases h1 : 1 ≤ (n : Int) ∧ (n : Int) ≤ 10
  · have H1 := Lib.hid h1
    obtain ⟨h1a, h1b⟩ := h1
    go_enter Tryd.func34, Tryd.ntmps34
    go_wp2_with fail
    refine (sizeR_any _ _ _ _).mono ?_
    rintro e w2 ⟨rfl, rfl⟩
    go_wp2_with fail
    refine (within_any _ _ _ true (decide_eq_true H1.out) _).mono ?_
    rintro e w2 ⟨rfl, rfl⟩
    go_wp2_with fail
    refine (arePerm_any _ _ _ _ p _ hx (by omega)).mono ?_
    rintro e w2 ⟨rfl, hE⟩
    by_cases hall : AllPerm n p
    · rw [pb_true hall]
      have hr := (allPerm_iff Hx.out.symm (by omega)).1 hall
      have Hr := Lib.hid hr
      clear hr hall
      go_wp2
      go_loopg [20] n (fun g i wr => ∃ k : Nat, k ≤ n ∧ g = n - k ∧ i = .int .i64 k ∧ Ext w wr ∧ Hid (∀ y, y < k → IsPerm (col p n y)))
      case atStart => exact ⟨0, Nat.zero_le _, rfl, rfl, hE, fun y h => absurd h (Nat.not_lt_zero _)⟩
      case round =>
        obtain ⟨y, hyk, rfl, rfl, hEy, Hc⟩ := hrel
        clear hE
        by_cases hly : y < n
        · have hz : (y : Int) < (n : Int) := by omega
          go_wp2
          obtain ⟨wo, rfl⟩ : ∃ wo : World, wo = wr := ⟨_, rfl⟩
          go_loopg [5, 25] n (fun g s i wi => ∃ (k : Nat) (ad : Option Addr) (d : Nat), k ≤ n ∧ g = n - k ∧ i = .int .i64 k ∧ s = .slice ad k d ∧ OwnI wi wo.heap.size ad k d (col p k y) ∧ Ext wo wi)
          case atStart => exact ⟨0, none, 0, Nat.zero_le _, rfl, rfl, rfl, Own.nil_ _ _ _ _, Ext.refl _⟩
          case round =>
            obtain ⟨x, ad, d, hxk, rfl, rfl, rfl, hO, hEx⟩ := hrel
            by_cases hlx : x < n
            · have hz : (x : Int) < (n : Int) := by omega
              obtain ⟨b, o, ai, ci, rfl, hc, hrow⟩ := (hx.ext (hEy.trans hEx)).row Hr.out.1 hlx
              obtain ⟨b1, o1, rfl, hc1⟩ := hrow.cell2 hly
              have hsz := hEx.size
              clear hrow
              go_wp2_with (at_builtin; refine app_I rfl _ _ rfl hO hsz rfl (by omega) rfl rfl ?_; intro ad' d' w3 hrow honly hmv)
              have hE3 := hEx.app hO honly (Nat.le_refl _)
              rw [← col_succ] at hrow
              clear hO hEx honly hmv hsz
              go_wp2
              go_roundg (n - (x + 1))
              case measure => go_light; omega
              case rel => go_light; exact ⟨x + 1, ad', d', by omega, rfl, by go_num, rfl, hrow, hE3⟩
            · have hz : ¬ (x : Int) < (n : Int) := by omega
              obtain rfl : n = x := by omega
              go_wp2_with fail
              refine (validPerm_any _ _ _ _ _ hO.rdI (by omega)).mono ?_
              rintro e w2 ⟨rfl, hE2⟩
              have hEn := (hEy.trans hEx).trans hE2
              clear hEy hEx hO hE2
              by_cases hp : PermOk (col p n y)
              · rw [pb_true hp]
                have Hp := Lib.hid hp
                clear hp
                go_wp2
                go_roundg (n - (y + 1))
                case measure => go_light; omega
                case rel => go_light; exact ⟨y + 1, by omega, rfl, by go_num, hEn, fun j hj => by
                  by_cases e : j = y
                  · subst e; exact Hp.out.2
                  · exact Hc.out j (by omega)⟩
              · rw [pb_false hp]
                have Hp := Lib.hid hp
                clear hp
                go_wp2
                go_ret
                exact ⟨ret_npb (fun h => Hp.out (PermOk.of (by rw [Hx.out]; exact h.2.2.2.2 y (by have := Hx.out; omega)) (by rw [col_length]; omega))), hEn⟩
        · have hz : ¬ (y : Int) < (n : Int) := by omega
          obtain rfl : n = y := by omega
          go_wp2
          go_ret
          have e := Hx.out
          exact ⟨ret_pb ⟨by omega, by omega, by rw [← e]; exact Hr.out.1, fun x hx => Hr.out.2 x (by omega), fun y hy => by rw [← e]; exact Hc.out y (by omega)⟩, hEy⟩
    · rw [pb_false hall]
      have Hall := Lib.hid hall
      clear hall
      go_wp2
      go_ret
      have e := Hx.out
      exact ⟨ret_npb (fun h => Hall.out ((allPerm_iff e.symm (by omega)).2 ⟨by rw [e]; exact h.2.2.1, fun x hx => h.2.2.2.1 x (by omega)⟩)), hE⟩
  · have H1 := Lib.hid h1
    clear h1
    go_enter Tryd.func34, Tryd.ntmps34
    go_wp2_with fail
    refine (sizeR_any _ _ _ _).mono ?_
    rintro e w2 ⟨rfl, rfl⟩
    go_wp2_with fail
    refine (within_any _ _ _ false (decide_eq_false H1.out) _).mono ?_
    rintro e w2 ⟨rfl, rfl⟩
    go_wp2
    go_ret
    exact ⟨ret_npb (fun h => H1.out (by have := h.1; have := h.2.1; have := Hx.out; omega)), Ext.refl _⟩
end Go.Proofs.YtnimmkfkijcbbaaDoor
