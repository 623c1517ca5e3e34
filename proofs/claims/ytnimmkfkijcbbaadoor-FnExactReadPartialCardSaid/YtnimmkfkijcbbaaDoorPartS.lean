/- l09Ok says whether rows are a partial square. Conditions: none. -/
import Derived.Test.YtnimmkfkijcbbaaDoorPartP
import Derived.Test.YtnimmkfkijcbbaaDoorIn
namespace Go.Proofs.YtnimmkfkijcbbaaDoor
open Go.RowKit

set_option maxRecDepth 100000 in
set_option maxHeartbeats 4000000 in
theorem l09Ok_any (a : Option Addr) (n c : Nat) (p : List (List Int)) (w : World) (hx : RdR w a n c p) :
    Calls Tryd.prog 21 #[.slice a n c] w fun e w' => e = .returned (.bool (pb (POk p))) ∧ Ext w w' := by
  have hb1 := hx.le
  have hb2 := hx.max
  have Hx := Lib.hid hx.len
  by_cases h1 : n < 1
  · have h1' : (n : Int) < 1 := by omega
    go_enter Tryd.func21, Tryd.ntmps21
    go_wp2
    go_ret
    exact ⟨ret_npb (fun h => by have := h.1; have := Hx.out; omega), Ext.refl _⟩
  by_cases h2 : 10 < n
  · have h2' : (10 : Int) < n := by omega
    go_enter Tryd.func21, Tryd.ntmps21
    go_wp2
    go_ret
    exact ⟨ret_npb (fun h => by have := h.2.1; have := Hx.out; omega), Ext.refl _⟩
  go_enter Tryd.func21, Tryd.ntmps21
  go_wp2
  -- the rows' lengths
  go_loopg [4] n (fun g i wr => ∃ k : Nat, k ≤ n ∧ g = n - k ∧ i = .int .i64 k ∧ Ext w wr ∧ Hid (∀ x, x < k → (gr p x).length = n))
  case atStart => exact ⟨0, Nat.zero_le _, rfl, rfl, Ext.refl _, fun x h => absurd h (Nat.not_lt_zero _)⟩
  case round =>
    obtain ⟨k, hk, rfl, rfl, hE, Hl⟩ := hrel
    by_cases hlt : k < n
    · obtain ⟨b, o, ai, ni, ci, rfl, hc, hrow⟩ := (hx.ext hE).gr hlt
      have hz : (k : Int) < (n : Int) := by omega
      have Hni := Lib.hid hrow.len
      by_cases he : ni = n
      · have he1 : ((ni : Int) != (n : Int)) = false := by simp [he]
        have He := Lib.hid he
        clear he hrow
        go_wp2
        go_roundg (n - (k + 1))
        case measure => go_light; omega
        case rel => go_light; exact ⟨k + 1, by omega, rfl, by go_num, hE, fun x h => by
          by_cases e : x = k
          · subst e; rw [← Hni.out, He.out]
          · exact Hl.out x (by omega)⟩
      · have he1 : ((ni : Int) != (n : Int)) = true := by simp; omega
        clear hrow
        go_wp2
        go_ret
        exact ⟨ret_npb (fun h => he (by rw [Hni.out, h.2.2.1.2 k (by have := Hx.out; omega), ← Hx.out])), hE⟩
    · have hz : ¬ (k : Int) < (n : Int) := by omega
      obtain rfl : n = k := by omega
      have Hrect : Hid (Rect p n n) := ⟨Hx.out.symm, Hl.out⟩
      clear Hl
      go_wp2
      -- every cell
      go_loopg [5, 6, 7] n (fun g i _ _ wr => ∃ k : Nat, k ≤ n ∧ g = n - k ∧ i = .int .i64 k ∧ Ext w wr ∧ Hid (∀ x y, x < k → y < n → PCell p n x y))
      case atStart => exact ⟨0, Nat.zero_le _, rfl, rfl, hE, fun x y h => absurd h (Nat.not_lt_zero _)⟩
      case round =>
        obtain ⟨x, hxk, rfl, rfl, hEx, Hc⟩ := hrel
        clear hE
        by_cases hlx : x < n
        · have hz : (x : Int) < (n : Int) := by omega
          go_wp2
          go_loopg [6, 7] n (fun g i _ wi => ∃ k : Nat, k ≤ n ∧ g = n - k ∧ i = .int .i64 k ∧ Ext w wi ∧ Hid (∀ y, y < k → PCell p n x y))
          case atStart => exact ⟨0, Nat.zero_le _, rfl, rfl, hEx, fun y h => absurd h (Nat.not_lt_zero _)⟩
          case round =>
            obtain ⟨y, hyk, rfl, rfl, hEy, Hcy⟩ := hrel
            clear hEx
            by_cases hly : y < n
            · have hz : (y : Int) < (n : Int) := by omega
              have hxw := hx.ext hEy
              obtain ⟨b, o, ai, ci, rfl, hc, hrow⟩ := hxw.row Hrect.out hlx
              obtain ⟨b1, o1, rfl, hc1⟩ := hrow.cell2 hly
              by_cases hin : -1 ≤ at2 p x y ∧ at2 p x y ≤ (n : Int) - 1
              · have Hin := Lib.hid hin
                clear hin
                go_wp2_with fail
                refine (l00In_any _ _ _ true (decide_eq_true Hin.out) _).mono ?_
                rintro e w2 ⟨rfl, rfl⟩
                go_wp2
                go_loopg [7] n (fun g i wi => ∃ k : Nat, k ≤ n ∧ g = n - k ∧ i = .int .i64 k ∧ Ext w wi ∧ Hid (0 ≤ at2 p x y → ∀ j, j < k → (j ≠ y → at2 p x j ≠ at2 p x y) ∧ (j ≠ x → at2 p j y ≠ at2 p x y)))
                case atStart => exact ⟨0, Nat.zero_le _, rfl, rfl, hEy, fun _ y h => absurd h (Nat.not_lt_zero _)⟩
                case round =>
                  obtain ⟨k, hkk, rfl, rfl, hEk, Hck⟩ := hrel
                  clear hEy hxw hc hrow hc1
                  by_cases hlk : k < n
                  · have hz : (k : Int) < (n : Int) := by omega
                    have hxw := hx.ext hEk
                    obtain ⟨b', o', ai, ci, hh, hc, hrow⟩ := hxw.row Hrect.out hlx
                    cases hh
                    obtain ⟨b1, o1, rfl, hc1⟩ := hrow.cell2 hly
                    obtain ⟨b1', o1', hh, hc2⟩ := hrow.cell2 hlk
                    cases hh
                    obtain ⟨b', o', ak, ck, hh, hck, hrowk⟩ := hxw.row Hrect.out hlk
                    cases hh
                    obtain ⟨b3, o3, rfl, hc3⟩ := hrowk.cell2 hly
                    clear hxw hrow hrowk
                    have step : ∀ (m : Nat), (0 ≤ at2 p x y → (k ≠ y → at2 p x k ≠ at2 p x y) ∧ (k ≠ x → at2 p k y ≠ at2 p x y)) → Ext w (wr.drewN m) ∧ Hid (0 ≤ at2 p x y → ∀ j, j < k + 1 → (j ≠ y → at2 p x j ≠ at2 p x y) ∧ (j ≠ x → at2 p j y ≠ at2 p x y)) := fun m hh =>
                      ⟨hEk.drewN _, fun h0 j hj => by
                        by_cases e : j = k
                        · subst e; exact hh h0
                        · exact Hck.out h0 j (by omega)⟩
                    have bad : ∀ (m : Nat), ¬ (0 ≤ at2 p x y → (k ≠ y → at2 p x k ≠ at2 p x y) ∧ (k ≠ x → at2 p k y ≠ at2 p x y)) → Ending.returned (.bool false) = .returned (.bool (pb (POk p))) ∧ Ext w (wr.drewN m) := fun m hh =>
                      ⟨ret_npb (fun h => hh (fun h0 => (h.2.2.2 x y (by have := Hx.out; omega) (by have := Hx.out; omega)).2.2 h0 k (by have := Hx.out; omega))), hEk.drewN _⟩
                    have Step := Lib.hid step
                    have Bad := Lib.hid bad
                    clear step bad hEk
                    by_cases hv : 0 ≤ at2 p x y
                    · have hv1 : decide (0 ≤ at2 p x y) = true := by simpa using hv
                      have Hhv := Lib.hid hv
                      clear hv
                      by_cases hb : k = y
                      · have hb1 : ((k : Int) != (y : Int)) = false := by simp; omega
                        have Hhb := Lib.hid hb
                        clear hb
                        by_cases hd : k = x
                        · have hd1 : ((k : Int) != (x : Int)) = false := by simp; omega
                          have Hhd := Lib.hid hd
                          clear hd
                          go_wp2_with fail
                          go_quiet (fail)
                          go_wp2
                          go_roundg (n - (k + 1))
                          case measure => go_light; omega
                          case rel => go_light; exact ⟨k + 1, by omega, rfl, by go_num, Step.out _ (fun _ => ⟨fun h => absurd Hhb.out h, fun h => absurd Hhd.out h⟩)⟩
                        · have hd1 : ((k : Int) != (x : Int)) = true := by simp; omega
                          have Hhd := Lib.hid hd
                          clear hd
                          by_cases he : at2 p k y = at2 p x y
                          · have he1 : (at2 p k y == at2 p x y) = true := by simp [he]
                            have Hhe := Lib.hid he
                            clear he
                            go_wp2_with fail
                            go_quiet (fail)
                            go_wp2
                            go_ret
                            exact Bad.out _ (fun h => (h Hhv.out).2 Hhd.out Hhe.out)
                          · have he1 : (at2 p k y == at2 p x y) = false := by simp [he]
                            have Hhe := Lib.hid he
                            clear he
                            go_wp2_with fail
                            go_quiet (fail)
                            go_wp2
                            go_roundg (n - (k + 1))
                            case measure => go_light; omega
                            case rel => go_light; exact ⟨k + 1, by omega, rfl, by go_num, Step.out _ (fun _ => ⟨fun h => absurd Hhb.out h, fun _ => Hhe.out⟩)⟩
                      · have hb1 : ((k : Int) != (y : Int)) = true := by simp; omega
                        have Hhb := Lib.hid hb
                        clear hb
                        by_cases hc : at2 p x k = at2 p x y
                        · have hc1 : (at2 p x k == at2 p x y) = true := by simp [hc]
                          have Hhc := Lib.hid hc
                          clear hc
                          go_wp2_with fail
                          go_quiet (fail)
                          go_wp2
                          go_ret
                          exact Bad.out _ (fun h => (h Hhv.out).1 Hhb.out Hhc.out)
                        · have hc1 : (at2 p x k == at2 p x y) = false := by simp [hc]
                          have Hhc := Lib.hid hc
                          clear hc
                          by_cases hd : k = x
                          · have hd1 : ((k : Int) != (x : Int)) = false := by simp; omega
                            have Hhd := Lib.hid hd
                            clear hd
                            go_wp2_with fail
                            go_quiet (fail)
                            go_wp2
                            go_roundg (n - (k + 1))
                            case measure => go_light; omega
                            case rel => go_light; exact ⟨k + 1, by omega, rfl, by go_num, Step.out _ (fun _ => ⟨fun _ => Hhc.out, fun h => absurd Hhd.out h⟩)⟩
                          · have hd1 : ((k : Int) != (x : Int)) = true := by simp; omega
                            have Hhd := Lib.hid hd
                            clear hd
                            by_cases he : at2 p k y = at2 p x y
                            · have he1 : (at2 p k y == at2 p x y) = true := by simp [he]
                              have Hhe := Lib.hid he
                              clear he
                              go_wp2_with fail
                              go_quiet (fail)
                              go_wp2
                              go_ret
                              exact Bad.out _ (fun h => (h Hhv.out).2 Hhd.out Hhe.out)
                            · have he1 : (at2 p k y == at2 p x y) = false := by simp [he]
                              have Hhe := Lib.hid he
                              clear he
                              go_wp2_with fail
                              go_quiet (fail)
                              go_wp2
                              go_roundg (n - (k + 1))
                              case measure => go_light; omega
                              case rel => go_light; exact ⟨k + 1, by omega, rfl, by go_num, Step.out _ (fun _ => ⟨fun _ => Hhc.out, fun _ => Hhe.out⟩)⟩
                    · have hv1 : decide (0 ≤ at2 p x y) = false := by simpa using hv
                      have Hhv := Lib.hid hv
                      clear hv
                      go_wp2_with fail
                      go_quiet (fail)
                      go_wp2
                      go_roundg (n - (k + 1))
                      case measure => go_light; omega
                      case rel => go_light; exact ⟨k + 1, by omega, rfl, by go_num, Step.out _ (fun h => by have := Hhv.out; omega)⟩
                  · have hz : ¬ (k : Int) < (n : Int) := by omega
                    obtain rfl : n = k := by omega
                    go_wp2
                    go_roundg (n - (y + 1))
                    case measure => go_light; omega
                    case rel => go_light; exact ⟨y + 1, by omega, rfl, by go_num, hEk, fun j hj => by
                      by_cases e : j = y
                      · subst e; exact ⟨Hin.out.1, Hin.out.2, Hck.out⟩
                      · exact Hcy.out j (by omega)⟩
              · have Hin := Lib.hid hin
                clear hin
                go_wp2_with fail
                refine (l00In_any _ _ _ false (decide_eq_false Hin.out) _).mono ?_
                rintro e w2 ⟨rfl, rfl⟩
                go_wp2
                go_ret
                exact ⟨ret_npb (fun h => Hin.out (by have h3 := h.2.2.2 x y (by have := Hx.out; omega) (by have := Hx.out; omega); have := Hx.out; exact ⟨h3.1, by have := h3.2.1; omega⟩)), hEy⟩
            · have hz : ¬ (y : Int) < (n : Int) := by omega
              obtain rfl : n = y := by omega
              go_wp2
              go_roundg (n - (x + 1))
              case measure => go_light; omega
              case rel => go_light; exact ⟨x + 1, by omega, rfl, by go_num, hEy, fun i j hi hj => by
                by_cases e : i = x
                · subst e; exact Hcy.out j hj
                · exact Hc.out i j (by omega) hj⟩
        · have hz : ¬ (x : Int) < (n : Int) := by omega
          obtain rfl : n = x := by omega
          go_wp2
          go_ret
          exact ⟨ret_pb ⟨by have := Hx.out; omega, by have := Hx.out; omega, by have := Hx.out; rw [← this]; exact Hrect.out, by have := Hx.out; rw [← this]; exact fun x y hx hy => Hc.out x y hx hy⟩, hEx⟩
end Go.Proofs.YtnimmkfkijcbbaaDoor
