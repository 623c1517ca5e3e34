/- The candidates of a cell, by both. Conditions: none. -/
import Derived.Test.YtgggbicmmijlnaaCandP
import Derived.Test.YtgggbicmmijlnaaPartI
import Derived.Test.YtgggbicmmijlnaaApp
namespace Go.Proofs.Ytgggbicmmijlnaa
open Go.RowKit

/-- impl.candidates. -/
theorem cand_iff {p : List (List Int)} {n x y : Nat} {s : Int} (hr : Rect p n n) (hx : x < n) :
    IsCand p n x y s ↔ s ∉ gr p x ∧ (p.any fun xs => gi xs y == s) = false := by
  have e1 := mem_row (p := p) (n := n) (x := x) (y := n) (hr.2 x hx) (Nat.le_refl _) s
  have e2 := any_col (p := p) (n := n) (x := n) (y := y) hr (Nat.le_refl _) s
  rw [List.take_of_length_le (by rw [hr.2 x hx]; exact Nat.le_refl _)] at e1
  rw [List.take_of_length_le (by rw [hr.1]; exact Nat.le_refl _)] at e2
  rw [← Bool.not_eq_true, e1, e2]
  constructor
  · exact fun h => ⟨fun ⟨k, hk, he⟩ => (h k hk).1 he, fun ⟨k, hk, he⟩ => (h k hk).2 he⟩
  · exact fun h k hk => ⟨fun he => h.1 ⟨k, hk, he⟩, fun he => h.2 ⟨k, hk, he⟩⟩

set_option maxHeartbeats 1600000 in
theorem candidates_any (a : Option Addr) (n c : Nat) (p : List (List Int)) (x y : Nat) (w : World) (hp : RdR w a n c p) (hr : Rect p n n) (hn : n ≤ 100) (hx : x < n) (hy : y < n) :
    Calls Try.prog 41 #[.slice a n c, .int .i64 x, .int .i64 y] w (RetI w (cands p x y)) := by
  have hb1 := hp.le
  have hb2 := hp.max
  have Hr := Lib.hid hr
  clear hr
  have hxz : (x : Int) < (n : Int) := by omega
  go_enter Try.func41, Try.ntmps41
  go_wp2
  go_loopg [7, 8] n (fun gh s i wr => ∃ (k m : Nat) (ad : Option Addr) (d : Nat), k ≤ n ∧ gh = n - k ∧ i = .int .i64 k ∧ m ≤ k ∧ s = .slice ad m d ∧ OwnI wr w.heap.size ad m d (candsTo p n x y k) ∧ Ext w wr)
  case atStart => exact ⟨0, 0, none, 0, Nat.zero_le _, rfl, rfl, Nat.zero_le _, rfl, Own.nil_ _ _ _ _, Ext.refl _⟩
  case round =>
    obtain ⟨k, m, ad, d, hk, rfl, rfl, hm, rfl, hO, hE⟩ := hrel
    by_cases hlt : k < n
    · have hz : (k : Int) < (n : Int) := by omega
      have hpw := hp.ext hE
      obtain ⟨b, o, ai, ci, rfl, hc, hrow⟩ := hpw.row Hr.out hx
      have hcol : ∀ xs, xs ∈ p → y < xs.length := fun xs hxs => by
        obtain ⟨j, hj, rfl⟩ := mem_gr hxs
        rw [Hr.out.2 j (by rw [← Hr.out.1]; exact hj)]; exact hy
      have Hcol := Lib.hid hcol
      clear hcol
      by_cases h1 : (k : Int) ∈ gr p x
      · go_wp2_with fail
        refine (sizeR_any _ _ _ _).mono ?_
        rintro e w2 ⟨rfl, rfl⟩
        go_wp2_with fail
        refine (slContains_any _ _ _ _ _ true _ hrow (decide_eq_true h1)).mono ?_
        rintro e w2 ⟨rfl, rfl⟩
        have H1 := Lib.hid h1
        clear h1 hrow
        go_wp2
        have e := candsTo_no (p := p) (n := n) (x := x) (y := y) (s := k) (fun h => ((cand_iff Hr.out hx).1 h).1 H1.out)
        rw [← e] at hO
        clear e
        go_roundg (n - (k + 1))
        case measure => go_light; omega
        case rel => go_light; exact ⟨k + 1, m, ad, d, by omega, rfl, by go_num, by omega, rfl, hO, hE⟩
      · go_wp2_with fail
        refine (sizeR_any _ _ _ _).mono ?_
        rintro e w2 ⟨rfl, rfl⟩
        go_wp2_with fail
        refine (slContains_any _ _ _ _ _ false _ hrow (decide_eq_false h1)).mono ?_
        rintro e w2 ⟨rfl, rfl⟩
        have H1 := Lib.hid h1
        clear h1 hrow
        go_wp2_with fail
        by_cases h2 : (p.any fun xs => gi xs y == (k : Int)) = true
        · refine (inColumn_any _ _ _ p y _ true _ hpw Hcol.out h2).mono ?_
          rintro e w2 ⟨rfl, hE2⟩
          have H2 := Lib.hid h2
          clear h2
          go_wp2
          have e := candsTo_no (p := p) (n := n) (x := x) (y := y) (s := k) (fun h => by have := ((cand_iff Hr.out hx).1 h).2; rw [H2.out] at this; cases this)
          rw [← e] at hO
          clear e
          go_roundg (n - (k + 1))
          case measure => go_light; omega
          case rel => go_light; exact ⟨k + 1, m, ad, d, by omega, rfl, by go_num, by omega, rfl, hO.ext hE2, hE.trans hE2⟩
        · have h3 : (p.any fun xs => gi xs y == (k : Int)) = false := by simpa using h2
          refine (inColumn_any _ _ _ p y _ false _ hpw Hcol.out h3).mono ?_
          rintro e w2 ⟨rfl, hE2⟩
          have H3 := Lib.hid h3
          clear h2 h3
          have hO2 := hO.ext hE2
          have hE3 := hE.trans hE2
          have hsz := hE3.size
          clear hO hE hE2 hpw
          go_wp2_with (at_builtin; refine app_I rfl _ _ rfl hO2 hsz rfl (by omega) rfl rfl ?_; intro ad' d' w3 hrow honly hmv)
          have hE4 := hE3.app hO2 honly (Nat.le_refl _)
          have e := candsTo_yes (p := p) (n := n) (x := x) (y := y) (s := k) ((cand_iff Hr.out hx).2 ⟨H1.out, H3.out⟩)
          rw [← e] at hrow
          clear hO2 hE3 honly hmv hsz e
          go_wp2
          go_roundg (n - (k + 1))
          case measure => go_light; omega
          case rel => go_light; exact ⟨k + 1, m + 1, ad', d', by omega, rfl, by go_num, by omega, rfl, hrow, hE4⟩
    · have hz : ¬ (k : Int) < (n : Int) := by omega
      obtain rfl : n = k := by omega
      go_wp2_with fail
      refine (sizeR_any _ _ _ _).mono ?_
      rintro e w2 ⟨rfl, rfl⟩
      go_wp2
      go_ret
      rw [show candsTo p n x y n = cands p x y by rw [cands, Hr.out.1]] at hO
      exact ⟨_, _, _, rfl, hO, hE⟩

set_option maxRecDepth 100000 in
set_option maxHeartbeats 1600000 in
theorem l09Candidates_any (a : Option Addr) (n c : Nat) (p : List (List Int)) (x y : Nat) (w : World) (hp : RdR w a n c p) (hr : Rect p n n) (hn : n ≤ 100) (hx : x < n) (hy : y < n) :
    Calls Try.prog 35 #[.slice a n c, .int .i64 x, .int .i64 y] w (RetI w (cands p x y)) := by
  have hb1 := hp.le
  have hb2 := hp.max
  have Hr := Lib.hid hr
  clear hr
  have hxz : (x : Int) < (n : Int) := by omega
  have hyz : (y : Int) < (n : Int) := by omega
  go_enter Try.func35, Try.ntmps35
  go_wp2
  have H0 := Own.empty 2 (Value.int .i64) w
  go_loopg [8, 9, 10, 11] n (fun gh s i _ _ wr => ∃ (k m : Nat) (ad : Option Addr) (d : Nat), k ≤ n ∧ gh = n - k ∧ i = .int .i64 k ∧ m ≤ k ∧ s = .slice ad m d ∧ OwnI wr w.heap.size ad m d (candsTo p n x y k) ∧ Ext w wr)
  case atStart => exact ⟨0, 0, _, 0, Nat.zero_le _, rfl, rfl, Nat.zero_le _, rfl, H0, Ext.at_alloc _ _⟩
  case round =>
    obtain ⟨k, m, ad, d, hk, rfl, rfl, hm, rfl, hO, hE⟩ := hrel
    clear H0
    by_cases hlt : k < n
    · have hz : (k : Int) < (n : Int) := by omega
      go_wp2
      obtain ⟨wo, rfl⟩ : ∃ wo : World, wo = wr := ⟨_, rfl⟩
      go_loopg [10, 11] n (fun gh s i wi => ∃ (j : Nat) (f : Bool), j ≤ n ∧ gh = n - j ∧ i = .int .i64 j ∧ s = .bool f ∧ Ext wo wi ∧ Hid (f = true ↔ ∀ i, i < j → at2 p x i ≠ (k : Int) ∧ at2 p i y ≠ (k : Int)))
      case atStart => exact ⟨0, true, Nat.zero_le _, rfl, rfl, rfl, Ext.refl _, ⟨fun _ i h => absurd h (Nat.not_lt_zero _), fun _ => rfl⟩⟩
      case round =>
        obtain ⟨j, f, hj, rfl, rfl, rfl, hEi, Hf⟩ := hrel
        by_cases hlj : j < n
        · have hz : (j : Int) < (n : Int) := by omega
          have hpw := hp.ext (hE.trans hEi)
          obtain ⟨b, o, ai, ci, rfl, hc, hrow⟩ := hpw.row Hr.out hx
          obtain ⟨b1, o1, rfl, hc1⟩ := hrow.cell2 hlj
          obtain ⟨b', o', aj, cj, hh, hcj, hrowj⟩ := hpw.row Hr.out hlj
          cases hh
          obtain ⟨b2, o2, rfl, hc2⟩ := hrowj.cell2 hy
          clear hrow hrowj hpw
          by_cases h1 : at2 p x j = (k : Int)
          · have h1' : (at2 p x j == (k : Int)) = true := by simp [h1]
            have H1 := Lib.hid h1
            clear h1
            go_wp2
            go_roundg (n - (j + 1))
            case measure => go_light; omega
            case rel => go_light; exact ⟨j + 1, false, by omega, rfl, by go_num, rfl, hEi, ⟨(fun h => by cases h), fun h => absurd H1.out (h j (by omega)).1⟩⟩
          · have h1' : (at2 p x j == (k : Int)) = false := by simp [h1]
            have H1 := Lib.hid h1
            clear h1
            by_cases h2 : at2 p j y = (k : Int)
            · have h2' : (at2 p j y == (k : Int)) = true := by simp [h2]
              have H2 := Lib.hid h2
              clear h2
              go_wp2
              go_roundg (n - (j + 1))
              case measure => go_light; omega
              case rel => go_light; exact ⟨j + 1, false, by omega, rfl, by go_num, rfl, hEi, ⟨(fun h => by cases h), fun h => absurd H2.out (h j (by omega)).2⟩⟩
            · have h2' : (at2 p j y == (k : Int)) = false := by simp [h2]
              have H2 := Lib.hid h2
              clear h2
              go_wp2
              go_roundg (n - (j + 1))
              case measure => go_light; omega
              case rel =>
                go_light
                refine ⟨j + 1, f, by omega, rfl, by go_num, rfl, hEi, ⟨fun h i hi => ?_, fun h => Hf.out.2 (fun i hi => h i (by omega))⟩⟩
                by_cases e : i = j
                · subst e; exact ⟨H1.out, H2.out⟩
                · exact Hf.out.1 h i (by omega)
        · have hz : ¬ (j : Int) < (n : Int) := by omega
          obtain rfl : n = j := by omega
          have hO2 := hO.ext hEi
          have hE2 := hE.trans hEi
          have hsz := hE2.size
          clear hO hE hEi
          cases f with
          | true =>
            have e := candsTo_yes (p := p) (n := n) (x := x) (y := y) (s := k) (Hf.out.1 rfl)
            go_wp2_with (at_builtin; refine app_I rfl _ _ rfl hO2 hsz rfl (by omega) rfl rfl ?_; intro ad' d' w3 hrow honly hmv)
            have hE4 := hE2.app hO2 honly (Nat.le_refl _)
            rw [← e] at hrow
            clear hO2 hE2 honly hmv hsz e
            go_wp2
            go_roundg (n - (k + 1))
            case measure => go_light; omega
            case rel => go_light; exact ⟨k + 1, m + 1, ad', d', by omega, rfl, by go_num, by omega, rfl, hrow, hE4⟩
          | false =>
            have e := candsTo_no (p := p) (n := n) (x := x) (y := y) (s := k) (fun h => by have := Hf.out.2 h; cases this)
            rw [← e] at hO2
            clear e
            go_wp2
            go_roundg (n - (k + 1))
            case measure => go_light; omega
            case rel => go_light; exact ⟨k + 1, m, ad, d, by omega, rfl, by go_num, by omega, rfl, hO2, hE2⟩
    · have hz : ¬ (k : Int) < (n : Int) := by omega
      obtain rfl : n = k := by omega
      go_wp2
      go_ret
      rw [show candsTo p n x y n = cands p x y by rw [cands, Hr.out.1]] at hO
      exact ⟨_, _, _, rfl, hO, hE⟩

end Go.Proofs.Ytgggbicmmijlnaa
