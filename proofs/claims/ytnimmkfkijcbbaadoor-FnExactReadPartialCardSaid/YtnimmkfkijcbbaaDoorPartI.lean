/- ValidPartial says whether rows are a partial square. Conditions: none. -/
import Derived.Test.YtnimmkfkijcbbaaDoorPartP
import Derived.Test.YtnimmkfkijcbbaaDoorIn
import Derived.Test.YtnimmkfkijcbbaaDoorSl
namespace Go.Proofs.YtnimmkfkijcbbaaDoor
open Go.RowKit

theorem Ext.at_alloc (w : World) (o : Obj) : Ext w (w.alloc o) := (Ext.refl w).alloc o

set_option maxHeartbeats 400000 in
theorem inColF (m y : Nat) (s : Int) (b1 b2 : Nat) (xss : List (List Int)) (w : World) (hm : ∀ xs, xs ∈ xss → y < xs.length)
    (hc1 : w.cell? ⟨b1, 0, none⟩ = some (.int .i64 y)) (hc2 : w.cell? ⟨b2, 0, none⟩ = some (.int .i64 s)) :
    Asks 52 #[.pointer (some ⟨b1, 0, none⟩), .pointer (some ⟨b2, 0, none⟩)] xss (fun xs => gi xs y == s) w := by
  intro i xs a n c w1 hi hE hx
  have hd1 := hE.cell hc1
  have hd2 := hE.cell hc2
  have hlen := hm xs (mem_of_get hi)
  clear hc1 hc2
  obtain ⟨b, o, rfl, hc⟩ := hx.gi (k := y) (by have := hx.len; omega)
  have hyn : (y : Int) < (n : Int) := by have := hx.len; omega
  show Calls Tryd.prog 52 #[.slice (some ⟨b, o, none⟩) n c, .pointer (some ⟨b1, 0, none⟩), .pointer (some ⟨b2, 0, none⟩)] w1 _
  go_enter Tryd.func52, Tryd.ntmps52
  go_wp2_with fail
  go_quiet (fail)
  go_wp2
  go_ret
  exact ⟨rfl, (Ext.refl _).drewN _⟩

/-- inColumn: does a symbol stand in a column of some rows. -/
theorem inColumn_any (a : Option Addr) (n c : Nat) (xss : List (List Int)) (y : Nat) (s : Int) (b : Bool) (w : World) (hx : RdR w a n c xss) (hm : ∀ xs, xs ∈ xss → y < xs.length) (hb : xss.any (fun xs => gi xs y == s) = b) :
    Calls Tryd.prog 40 #[.slice a n c, .int .i64 y, .int .i64 s] w fun e w' => e = .returned (.bool b) ∧ Ext w w' := by
  have hmf : ∀ (fn : Fn) (first cap : Array Value) (w : World), (Instr.makeFunc fn first cap).run Tryd.prog w = .ok (.func fn first cap) w := fun _ _ _ _ => rfl
  have Hb := Lib.hid hb
  have Hm := Lib.hid hm
  clear hb hm
  go_enter Tryd.func40, Tryd.ntmps40
  go_wp2_with fail
  refine (slContainsFunc_any _ _ _ xss _ _ _ b _ (hx.ext ((Ext.at_alloc _ _).alloc _)) (enters_of Tryd.func52 (by kernel_rfl) (by kernel_rfl)) (inColF 0 y s _ _ xss _ Hm.out (by simp) (by simp)) Hb.out).mono ?_
  rintro e w2 ⟨rfl, hE⟩
  go_wp2
  go_ret
  exact ⟨rfl, Ext.trans ((Ext.at_alloc _ _).alloc _) hE⟩


theorem any_col {p : List (List Int)} {n x y : Nat} (hr : Rect p n n) (hx : x ≤ n) (s : Int) : ((p.take x).any fun xs => gi xs y == s) = true ↔ ∃ k, k < x ∧ at2 p k y = s := by
  rw [List.any_eq_true]
  constructor
  · rintro ⟨xs, hm, he⟩
    obtain ⟨k, hk, rfl⟩ := mem_gr hm
    rw [List.length_take] at hk
    rw [gr_take (by omega)] at he
    exact ⟨k, by omega, by simpa [at2] using he⟩
  · rintro ⟨k, hk, he⟩
    refine ⟨gr p k, ?_, by simpa [at2] using he⟩
    have h1 := gr_get (p := p) (k := k) (by rw [hr.1]; omega)
    exact List.mem_of_getElem? (i := k) (by rw [List.getElem?_take, if_pos hk]; exact h1)

theorem mem_row {p : List (List Int)} {n x y : Nat} (hx : (gr p x).length = n) (hy : y ≤ n) (s : Int) : s ∈ (gr p x).take y ↔ ∃ k, k < y ∧ at2 p x k = s := by
  constructor
  · intro hm
    obtain ⟨k, hk, rfl⟩ := mem_gi hm
    rw [List.length_take] at hk
    rw [gi_take (by omega)]
    exact ⟨k, by omega, rfl⟩
  · rintro ⟨k, hk, rfl⟩
    have h1 := gi_get (xs := gr p x) (k := k) (by omega)
    exact List.mem_of_getElem? (i := k) (by rw [List.getElem?_take, if_pos hk]; exact h1)

set_option maxRecDepth 100000 in
set_option maxHeartbeats 4000000 in
theorem validPartial_any (a : Option Addr) (n c : Nat) (p : List (List Int)) (w : World) (hx : RdR w a n c p) :
    Calls Tryd.prog 24 #[.slice a n c] w fun e w' => e = .returned (.bool (pb (POk p))) ∧ Ext w w' := by
  have hb1 := hx.le
  have hb2 := hx.max
  have Hx := Lib.hid hx.len
  by_cases h1 : 1 ≤ (n : Int) ∧ (n : Int) ≤ 10
  · have H1 := Lib.hid h1
    obtain ⟨h1a, h1b⟩ := h1
    go_enter Tryd.func24, Tryd.ntmps24
    go_wp2_with fail
    refine (sizeR_any _ _ _ _).mono ?_
    rintro e w2 ⟨rfl, rfl⟩
    go_wp2_with fail
    refine (within_any _ _ _ true (decide_eq_true H1.out) _).mono ?_
    rintro e w2 ⟨rfl, rfl⟩
    go_wp2
    go_loopg [15] n (fun g i wr => ∃ k : Nat, k ≤ n ∧ g = n - k ∧ i = .int .i64 k ∧ Ext w wr ∧ Hid (∀ x, x < k → (gr p x).length = n ∧ ∀ y, y < n → PCell' p n x y))
    case atStart => exact ⟨0, Nat.zero_le _, rfl, rfl, Ext.refl _, fun x h => absurd h (Nat.not_lt_zero _)⟩
    case round =>
      obtain ⟨x, hxk, rfl, rfl, hE, Hc⟩ := hrel
      by_cases hlt : x < n
      · obtain ⟨b, o, ai, ni, ci, rfl, hc, hrow⟩ := (hx.ext hE).gr hlt
        have hz : (x : Int) < (n : Int) := by omega
        have Hni := Lib.hid hrow.len
        by_cases he : ni = n
        · subst he
          have he1 : ((ni : Int) != (ni : Int)) = false := by simp
          have hci := hrow.le
          go_wp2_with fail
          refine (sizeI_any _ _ _ _).mono ?_
          rintro e w2 ⟨rfl, rfl⟩
          go_wp2
          obtain ⟨wo, rfl⟩ : ∃ wo : World, wo = wr := ⟨_, rfl⟩
          go_loopg [26] ni (fun g i wi => ∃ k : Nat, k ≤ ni ∧ g = ni - k ∧ i = .int .i64 k ∧ Ext wo wi ∧ Hid (∀ y, y < k → PCell' p ni x y))
          case atStart => exact ⟨0, Nat.zero_le _, rfl, rfl, Ext.refl _, fun y h => absurd h (Nat.not_lt_zero _)⟩
          case round =>
            obtain ⟨y, hyk, rfl, rfl, hEy, Hcy⟩ := hrel
            have hE2 := hE.trans hEy
            by_cases hly : y < ni
            · have hz : (y : Int) < (ni : Int) := by omega
              have hrw := hrow.ext hEy
              obtain ⟨b1, o1, rfl, hc1⟩ := hrw.cell2 hly
              have bad : ∀ w', Ext wr w' → ¬ PCell' p ni x y → Ending.returned (.bool false) = .returned (.bool (pb (POk p))) ∧ Ext w w' := fun w' h hh =>
                ⟨ret_npb (fun h => hh (by have e := Hx.out; rw [e]; exact PCell.weak (by omega) (by omega) (h.2.2.2 x y (by omega) (by omega)))), hE2.trans h⟩
              have step : ∀ w', Ext wr w' → PCell' p ni x y → Ext wo w' ∧ Hid (∀ j, j < y + 1 → PCell' p ni x j) := fun w' h hh =>
                ⟨hEy.trans h, fun j hj => by
                  by_cases e : j = y
                  · subst e; exact hh
                  · exact Hcy.out j (by omega)⟩
              have Bad := Lib.hid bad
              have Step := Lib.hid step
              clear bad step
              by_cases hin : -1 ≤ at2 p x y ∧ at2 p x y ≤ (ni : Int) - 1
              · have Hin := Lib.hid hin
                clear hin
                have hp := (hx.ext hE2).cut (m := x) (by omega)
                have hm : ∀ xs, xs ∈ p.take x → y < xs.length := fun xs hxs => by
                  obtain ⟨k, hk, rfl⟩ := mem_gr hxs
                  rw [List.length_take] at hk
                  rw [gr_take (by omega), (Hc.out k (by omega)).1]
                  omega
                have Hm := Lib.hid hm
                clear hm
                by_cases hs : at2 p x y = -1
                · have hs1 : (at2 p x y != -1) = false := by simp [hs]
                  have Hs := Lib.hid hs
                  clear hs
                  go_wp2_with fail
                  refine (within_any _ _ _ true (decide_eq_true Hin.out) _).mono ?_
                  rintro e w2 ⟨rfl, rfl⟩
                  go_wp2
                  obtain ⟨he1, he2⟩ := Step.out wr (Ext.refl _) ⟨Hin.out.1, Hin.out.2, fun h => absurd Hs.out h⟩
                  go_roundg (ni - (y + 1))
                  case measure => go_light; omega
                  case rel => go_light; exact ⟨y + 1, by omega, rfl, by go_num, he1, he2⟩
                · have hs1 : (at2 p x y != -1) = true := by simp [hs]
                  have Hs := Lib.hid hs
                  clear hs
                  go_wp2_with fail
                  refine (within_any _ _ _ true (decide_eq_true Hin.out) _).mono ?_
                  rintro e w2 ⟨rfl, rfl⟩
                  go_wp2_with fail
                  by_cases hcon : at2 p x y ∈ (gr p x).take y
                  · refine (slContains_any _ _ _ _ _ true _ (hrw.cut (m := y) (by omega)) (decide_eq_true hcon)).mono ?_
                    rintro e w2 ⟨rfl, rfl⟩
                    have Hcon := Lib.hid hcon
                    clear hcon
                    go_wp2
                    go_ret
                    refine Bad.out _ (Ext.refl _) (fun h => ?_)
                    obtain ⟨k, hk, he⟩ := (mem_row (by rw [← Hni.out]) (by omega) _).1 Hcon.out
                    exact (h.2.2 Hs.out).1 k hk he
                  · refine (slContains_any _ _ _ _ _ false _ (hrw.cut (m := y) (by omega)) (decide_eq_false hcon)).mono ?_
                    rintro e w2 ⟨rfl, rfl⟩
                    have Hcon := Lib.hid hcon
                    clear hcon
                    go_wp2_with fail
                    by_cases hcol : ∃ k, k < x ∧ at2 p k y = at2 p x y
                    · have hr2 : ((p.take x).any fun xs => gi xs y == at2 p x y) = true := List.any_eq_true.2 (by
                        obtain ⟨k, hk, he⟩ := hcol
                        have hkl : k < p.length := by have := Hx.out; omega
                        exact ⟨gr p k, List.mem_of_getElem? (i := k) (by rw [List.getElem?_take, if_pos hk]; exact gr_get hkl), by simpa [at2] using he⟩)
                      refine (inColumn_any _ _ _ _ y _ true _ hp Hm.out hr2).mono ?_
                      rintro e w2 ⟨rfl, hE3⟩
                      have Hcol := Lib.hid hcol
                      clear hcol hr2
                      go_wp2
                      go_ret
                      refine Bad.out _ hE3 (fun h => ?_)
                      obtain ⟨k, hk, he⟩ := Hcol.out
                      exact (h.2.2 Hs.out).2 k hk he
                    · have hr2 : ((p.take x).any fun xs => gi xs y == at2 p x y) = false := List.any_eq_false.2 (by
                        intro xs hxs he
                        obtain ⟨k, hk, rfl⟩ := mem_gr hxs
                        rw [List.length_take] at hk
                        rw [gr_take (by omega)] at he
                        exact hcol ⟨k, by omega, by simpa [at2] using he⟩)
                      refine (inColumn_any _ _ _ _ y _ false _ hp Hm.out hr2).mono ?_
                      rintro e w2 ⟨rfl, hE3⟩
                      have Hcol := Lib.hid hcol
                      clear hcol hr2
                      go_wp2
                      obtain ⟨he1, he2⟩ := Step.out w2 hE3 ⟨Hin.out.1, Hin.out.2, fun _ => ⟨fun k hk he => Hcon.out ((mem_row (by rw [← Hni.out]) (by omega) _).2 ⟨k, hk, he⟩), fun k hk he => Hcol.out ⟨k, hk, he⟩⟩⟩
                      go_roundg (ni - (y + 1))
                      case measure => go_light; omega
                      case rel => go_light; exact ⟨y + 1, by omega, rfl, by go_num, he1, he2⟩
              · have Hin := Lib.hid hin
                clear hin
                go_wp2_with fail
                refine (within_any _ _ _ false (decide_eq_false Hin.out) _).mono ?_
                rintro e w2 ⟨rfl, rfl⟩
                go_wp2
                go_ret
                exact Bad.out wr (Ext.refl _) (fun h => Hin.out ⟨h.1, h.2.1⟩)
            · have hz : ¬ (y : Int) < (ni : Int) := by omega
              obtain rfl : ni = y := by omega
              go_wp2
              go_roundg (ni - (x + 1))
              case measure => go_light; omega
              case rel => go_light; exact ⟨x + 1, by omega, rfl, by go_num, hE2, fun i hi => by
                by_cases e : i = x
                · subst e; exact ⟨Hni.out.symm, Hcy.out⟩
                · exact Hc.out i (by omega)⟩
        · have he1 : ((ni : Int) != (n : Int)) = true := by simp; omega
          have He := Lib.hid he
          clear he
          go_wp2_with fail
          refine (sizeI_any _ _ _ _).mono ?_
          rintro e w2 ⟨rfl, rfl⟩
          go_wp2
          go_ret
          exact ⟨ret_npb (fun h => He.out (by rw [Hni.out, h.2.2.1.2 x (by have := Hx.out; omega), ← Hx.out])), hE⟩
      · have hz : ¬ (x : Int) < (n : Int) := by omega
        obtain rfl : n = x := by omega
        go_wp2
        go_ret
        have e := Hx.out
        exact ⟨ret_pb (POk.of' (by omega) (by omega) ⟨rfl, fun x hx => by rw [← e]; exact (Hc.out x (by omega)).1⟩ (fun x y hx hy => by rw [← e]; exact (Hc.out x (by omega)).2 y (by omega))), hE⟩
  · have H1 := Lib.hid h1
    clear h1
    go_enter Tryd.func24, Tryd.ntmps24
    go_wp2_with fail
    refine (sizeR_any _ _ _ _).mono ?_
    rintro e w2 ⟨rfl, rfl⟩
    go_wp2_with fail
    refine (within_any _ _ _ false (decide_eq_false H1.out) _).mono ?_
    rintro e w2 ⟨rfl, rfl⟩
    go_wp2
    go_ret
    exact ⟨ret_npb (fun h => H1.out (by have := h.1; have := h.2.1; have := Hx.out; omega)), Ext.refl _⟩

end Go.Proofs.YtnimmkfkijcbbaaDoor
