/- SymbolColumns of both. Conditions: none. -/
import Derived.Test.YtkapkieeafhaoaaSqS
import Derived.Test.YtkapkieeafhaoaaSqI
import Derived.Test.YtkapkieeafhaoaaSz
import Derived.Test.YtkapkieeafhaoaaSl
import Derived.Test.YtkapkieeafhaoaaApp
namespace Go.Proofs.Ytkapkieeafhaoaa
open Go.RowKit

/-- The places of a symbol in a row, among the first cells. -/
def hits (p : List (List Int)) (x : Nat) (s : Int) : Nat → List Int
  | 0 => []
  | y + 1 => if at2 p x y = s then hits p x s y ++ [(y : Int)] else hits p x s y
def symTo (p : List (List Int)) (s : Int) (n : Nat) : Nat → List Int
  | 0 => []
  | x + 1 => symTo p s n x ++ hits p x s n

theorem hits_of {p : List (List Int)} {x n r : Nat} {s : Int} (h : ∀ j, j < n → (at2 p x j = s ↔ j = r)) : ∀ y, y ≤ n → hits p x s y = if r < y then [(r : Int)] else [] := by
  intro y
  induction y with
  | zero => intro _; rfl
  | succ y ih =>
    intro hy
    rw [hits, ih (by omega)]
    by_cases e : y = r
    · subst e
      rw [if_pos ((h y (by omega)).2 rfl), if_neg (by omega), if_pos (by omega)]; rfl
    · rw [if_neg (fun k => e ((h y (by omega)).1 k))]
      by_cases h2 : r < y
      · rw [if_pos h2, if_pos (by omega)]
      · rw [if_neg h2, if_neg (by omega)]

/-- A symbol of a Latin square lies once in each row. -/
theorem SqOk.once {p : List (List Int)} (h : SqOk p) {x : Nat} {s : Int} (hx : x < p.length) (h1 : 0 ≤ s) (h2 : s < p.length) :
    ∃ r : Nat, r < p.length ∧ ∀ j, j < p.length → (at2 p x j = s ↔ j = r) := by
  have hrow := h.2.2.2.1 x hx
  have hlen := h.2.2.1.2 x hx
  have hmem : s ∈ gr p x := by
    rw [hrow.perm.mem_iff, mem_upto, hlen]; exact ⟨h1, h2⟩
  obtain ⟨r, hr, he⟩ := mem_gi hmem
  rw [hlen] at hr
  refine ⟨r, hr, fun j hj => ⟨fun e => ?_, fun e => by subst e; exact he⟩⟩
  have hnd := hrow.1
  rw [List.Nodup, List.pairwise_iff_getElem] at hnd
  have g1 : (gr p x)[j]'(by omega) = s := by rw [← e, at2, gi_of (List.getElem?_eq_getElem (by omega))]
  have g2 : (gr p x)[r]'(by omega) = s := by rw [← he, gi_of (List.getElem?_eq_getElem (by omega))]
  rcases Nat.lt_trichotomy j r with hlt | hlt | hlt
  · exact absurd (g1.trans g2.symm) (hnd j r (by omega) (by omega) hlt)
  · exact hlt
  · exact absurd (g2.trans g1.symm) (hnd r j (by omega) (by omega) hlt)

theorem symTo_len {p : List (List Int)} (h : SqOk p) {s : Int} (h1 : 0 ≤ s) (h2 : s < p.length) : ∀ k, k ≤ p.length → (symTo p s p.length k).length = k := by
  intro k
  induction k with
  | zero => intro _; rfl
  | succ k ih =>
    intro hk
    obtain ⟨r, hr, ho⟩ := h.once (x := k) (by omega) h1 h2
    rw [symTo, List.length_append, ih (by omega), hits_of ho _ (Nat.le_refl _), if_pos hr]; rfl

noncomputable def symC (p : List (List Int)) (s : Int) : Int := if pb (SqOk p) then (if pb (0 ≤ s ∧ s ≤ (p.length : Int) - 1) then 0 else 2) else 1
noncomputable def symM (p : List (List Int)) (s : Int) : List Int := if pb (SqOk p) then (if pb (0 ≤ s ∧ s ≤ (p.length : Int) - 1) then symTo p s p.length p.length else []) else []

theorem symM_len (p : List (List Int)) (s : Int) : (symM p s).length ≤ 1048576 := by
  rw [symM]
  split
  · rename_i h0
    split
    · rename_i h1
      have h2 := pb_iff.1 h1
      have h3 := pb_iff.1 h0
      rw [symTo_len h3 h2.1 (by omega) _ (Nat.le_refl _)]
      have := h3.2.1; omega
    · simp
  · simp

set_option maxRecDepth 100000 in
set_option maxHeartbeats 1600000 in
theorem implSym (a : Option Addr) (n c : Nat) (p : List (List Int)) (s : Int) (w : World) (hp : RdR w a n c p) (hs : p.length + tot p ≤ 1048576) (h1 : -9223372036854775808 ≤ s) (h2 : s ≤ 9223372036854775807) :
    Calls Try.prog 92 #[.slice a n c, .int .i64 s] w (RetIC w (symM p s) (symC p s)) := by
  have hb1 := hp.le
  have hb2 := hp.max
  have Hl := Lib.hid hp.len
  by_cases h : SqOk p
  · have hb : pb (SqOk p) = true := pb_true h
    have Hb := Lib.hid hb
    have H := Lib.hid h
    have hn : n ≤ 10 := by have := h.2.1; have := Hl.out; omega
    by_cases hin : 0 ≤ s ∧ s ≤ (n : Int) - 1
    · have Hin := Lib.hid hin
      have hin2 : pb (0 ≤ s ∧ s ≤ (p.length : Int) - 1) = true := pb_true (by rw [← Hl.out]; exact hin)
      have Hin2 := Lib.hid hin2
      clear hin hin2 h
      go_enter Try.func92, Try.ntmps92
      go_wp2_with fail
      refine (validSquare_any _ _ _ p _ hp).mono ?_
      rintro e w2 ⟨rfl, hE0⟩
      rw [hb]
      go_wp2_with fail
      refine (sizeR_any _ _ _ _).mono ?_
      rintro e w3 ⟨rfl, rfl⟩
      go_wp2_with fail
      refine (within_any _ _ _ true (decide_eq_true Hin.out) _).mono ?_
      rintro e w3 ⟨rfl, rfl⟩
      go_wp2
      go_loopg [6, 20] n (fun gh t i wr => ∃ (k m : Nat) (ad : Option Addr) (d : Nat), k ≤ n ∧ gh = n - k ∧ i = .int .i64 k ∧ m = k ∧ t = .slice ad m d ∧ OwnI wr w.heap.size ad m d (symTo p s n k) ∧ Ext w wr)
      case atStart => exact ⟨0, 0, none, 0, Nat.zero_le _, rfl, rfl, rfl, rfl, Own.nil_ _ _ _ _, hE0⟩
      case round =>
        clear hE0
        obtain ⟨k, m, ad, d, hk, rfl, rfl, rfl, rfl, hO, hE⟩ := hrel
        by_cases hlt : m < n
        · have hz : (m : Int) < (n : Int) := by omega
          obtain ⟨b, o, ai, ni, ci, rfl, hc, hrow⟩ := hp.gr hlt
          replace hc := hE.cell hc
          replace hrow := RdI.ext hrow hE
          go_wp2_with fail
          refine (slIndex_any _ _ _ _ _ _ hrow).mono ?_
          rintro e w4 ⟨r, rfl, hfirst, _, hmem, rfl⟩
          have e : symTo p s n (m + 1) = symTo p s n m ++ [r] := by
            obtain ⟨r', hr', ho⟩ := H.out.once (x := m) (s := s) (by have := Hl.out; omega) Hin.out.1 (by have := Hin.out.2; have := Hl.out; omega)
            rw [← Hl.out] at hr' ho
            rw [symTo, hits_of ho _ (Nat.le_refl _), if_pos hr']
            have hat : at2 p m r' = s := (ho r' hr').2 rfl
            rcases hfirst with ⟨_, hno⟩ | ⟨k', rfl, hk', _⟩
            · exact absurd (by rw [← hat]; exact gi_mem (by rw [H.out.2.2.1.2 m (by have := Hl.out; omega), ← Hl.out]; exact hr')) hno
            · have hlt' := (List.getElem?_eq_some_iff.1 hk').1
              rw [H.out.2.2.1.2 m (by have := Hl.out; omega), ← Hl.out] at hlt'
              have := (ho k' hlt').1 (gi_of hk')
              rw [this]
          have hsz := hE.size
          have HH := Lib.hid (And.intro hfirst hmem)
          clear hfirst hmem hrow
          go_wp2_with (at_builtin; refine app_I rfl _ _ rfl hO hsz rfl (by omega) rfl rfl ?_; intro ad' d' w3 hrow2 honly hmv)
          have hE4 := hE.app hO honly (Nat.le_refl _)
          rw [← e] at hrow2
          clear hO hE honly hmv hsz e
          go_wp2
          go_roundg (n - (m + 1))
          case measure => go_light; omega
          case rel => go_light; exact ⟨m + 1, m + 1, ad', d', by omega, rfl, by go_num, rfl, rfl, hrow2, hE4⟩
        · have hz : ¬ (m : Int) < (n : Int) := by omega
          obtain rfl : n = m := by omega
          go_wp2
          go_ret2
          exact RetIC.mk_ hO (Nat.le_refl _) (by rw [symM, if_pos Hb.out, if_pos Hin2.out, ← Hl.out]) (by rw [symC, if_pos Hb.out, if_pos Hin2.out]) hE
    · have Hin := Lib.hid hin
      have hno : pb (0 ≤ s ∧ s ≤ (p.length : Int) - 1) = false := pb_false (by rw [← Hl.out]; exact hin)
      have Hno := Lib.hid hno
      clear hin hno h
      go_enter Try.func92, Try.ntmps92
      go_wp2_with fail
      refine (validSquare_any _ _ _ p _ hp).mono ?_
      rintro e w2 ⟨rfl, hE0⟩
      rw [hb]
      go_wp2_with fail
      refine (sizeR_any _ _ _ _).mono ?_
      rintro e w3 ⟨rfl, rfl⟩
      go_wp2_with fail
      refine (within_any _ _ _ false (decide_eq_false Hin.out) _).mono ?_
      rintro e w3 ⟨rfl, rfl⟩
      go_wp2
      go_ret2
      exact RetIC.nil_ (by rw [symM, if_pos Hb.out, Hno.out]; rfl) (by rw [symC, if_pos Hb.out, Hno.out]; rfl) hE0
  · have hb : pb (SqOk p) = false := pb_false h
    have Hb := Lib.hid hb
    go_enter Try.func92, Try.ntmps92
    go_wp2_with fail
    refine (validSquare_any _ _ _ p _ hp).mono ?_
    rintro e w2 ⟨rfl, hE⟩
    rw [hb]
    go_wp2
    go_ret2
    exact RetIC.nil_ (by rw [symM, Hb.out]; rfl) (by rw [symC, Hb.out]; rfl) hE

set_option maxRecDepth 100000 in
set_option maxHeartbeats 1600000 in
theorem specSym (a : Option Addr) (n c : Nat) (p : List (List Int)) (s : Int) (w : World) (hp : RdR w a n c p) (hs : p.length + tot p ≤ 1048576) (h1 : -9223372036854775808 ≤ s) (h2 : s ≤ 9223372036854775807) :
    Calls Try.prog 95 #[.slice a n c, .int .i64 s] w (RetIC w (symM p s) (symC p s)) := by
  have hb1 := hp.le
  have hb2 := hp.max
  have Hl := Lib.hid hp.len
  by_cases h : SqOk p
  · have hb : pb (SqOk p) = true := pb_true h
    have Hb := Lib.hid hb
    have H := Lib.hid h
    have hn : n ≤ 10 := by have := h.2.1; have := Hl.out; omega
    have Hr : Hid (Rect p n n) := Lib.hid (by have := h.2.2.1; rwa [← Hl.out] at this)
    by_cases hin : 0 ≤ s ∧ s ≤ (n : Int) - 1
    · have Hin := Lib.hid hin
      have hin2 : pb (0 ≤ s ∧ s ≤ (p.length : Int) - 1) = true := pb_true (by rw [← Hl.out]; exact hin)
      have Hin2 := Lib.hid hin2
      clear hin hin2 h
      go_enter Try.func95, Try.ntmps95
      go_wp2_with fail
      refine (l06Ok_any _ _ _ p _ hp).mono ?_
      rintro e w2 ⟨rfl, hE0⟩
      rw [hb]
      go_wp2_with fail
      refine (l00In_any _ _ _ true (decide_eq_true Hin.out) _).mono ?_
      rintro e w3 ⟨rfl, rfl⟩
      go_wp2
      have H0 := Own.empty 2 (Value.int .i64) w2
      have hO0 := H0.base hE0.size
      have hE1 := hE0.alloc (.cells #[] 2)
      clear H0 hE0
      go_loopg [7, 8] n (fun gh t i wr => ∃ (k m : Nat) (ad : Option Addr) (d : Nat), k ≤ n ∧ gh = n - k ∧ i = .int .i64 k ∧ m = k ∧ t = .slice ad m d ∧ OwnI wr w.heap.size ad m d (symTo p s n k) ∧ Ext w wr)
      case atStart => exact ⟨0, 0, _, 0, Nat.zero_le _, rfl, rfl, rfl, rfl, hO0, hE1⟩
      case round =>
        clear hE1 hO0
        obtain ⟨k, m, ad, d, hk, rfl, rfl, rfl, rfl, hO, hE⟩ := hrel
        by_cases hlt : m < n
        · have hz : (m : Int) < (n : Int) := by omega
          go_wp2
          go_loopg [7, 9] n (fun gh t i wi => ∃ (j m' : Nat) (ad : Option Addr) (d : Nat), j ≤ n ∧ gh = n - j ∧ i = .int .i64 j ∧ m' ≤ m + j ∧ t = .slice ad m' d ∧ OwnI wi w.heap.size ad m' d (symTo p s n m ++ hits p m s j) ∧ Ext w wi)
          case atStart => exact ⟨0, m, ad, d, Nat.zero_le _, rfl, rfl, by omega, rfl, by rw [hits, List.append_nil]; exact hO, hE⟩
          case round =>
            clear hO hE
            obtain ⟨j, m', ad, d, hj, rfl, rfl, hm, rfl, hO, hE⟩ := hrel
            by_cases hlj : j < n
            · have hz2 : (j : Int) < (n : Int) := by omega
              obtain ⟨b, o, ai, ci, rfl, hc, hrow⟩ := hp.row Hr.out hlt
              replace hc := hE.cell hc
              obtain ⟨b1, o1, rfl, hc1⟩ := (hrow.ext hE).cell2 hlj
              clear hrow
              by_cases g1 : at2 p m j = s
              · have g1' : (at2 p m j == s) = true := by simp [g1]
                have e : symTo p s n m ++ hits p m s (j + 1) = (symTo p s n m ++ hits p m s j) ++ [(j : Int)] := by rw [hits, if_pos g1, List.append_assoc]
                have G1 := Lib.hid g1
                clear g1
                have hsz := hE.size
                go_wp2_with (at_builtin; refine app_I rfl _ _ rfl hO hsz rfl (by omega) rfl rfl ?_; intro ad' d' w3 hrow2 honly hmv)
                have hE4 := hE.app hO honly (Nat.le_refl _)
                rw [← e] at hrow2
                clear hO hE honly hmv hsz e
                go_wp2
                go_roundg (n - (j + 1))
                case measure => go_light; omega
                case rel => go_light; exact ⟨j + 1, m' + 1, ad', d', by omega, rfl, by go_num, by omega, rfl, hrow2, hE4⟩
              · have g1' : (at2 p m j == s) = false := by simp [g1]
                have e : symTo p s n m ++ hits p m s (j + 1) = symTo p s n m ++ hits p m s j := by rw [hits, if_neg g1]
                have G1 := Lib.hid g1
                clear g1
                rw [← e] at hO
                clear e
                go_wp2
                go_roundg (n - (j + 1))
                case measure => go_light; omega
                case rel => go_light; exact ⟨j + 1, m', ad, d, by omega, rfl, by go_num, by omega, rfl, hO, hE⟩
            · have hz2 : ¬ (j : Int) < (n : Int) := by omega
              obtain rfl : n = j := by omega
              rw [show symTo p s n m ++ hits p m s n = symTo p s n (m + 1) from rfl] at hO
              have hm2 : m' = m + 1 := by
                have h5 := symTo_len H.out (s := s) Hin.out.1 (by have := Hin.out.2; have := Hl.out; omega) (m + 1) (by have := Hl.out; omega)
                rw [← Hl.out] at h5
                rw [hO.len, h5]
              subst hm2
              go_wp2
              go_roundg (n - (m + 1))
              case measure => go_light; omega
              case rel => go_light; exact ⟨m + 1, m + 1, ad, d, by omega, rfl, by go_num, rfl, rfl, hO, hE⟩
        · have hz : ¬ (m : Int) < (n : Int) := by omega
          obtain rfl : n = m := by omega
          go_wp2
          go_ret2
          exact RetIC.mk_ hO (Nat.le_refl _) (by rw [symM, if_pos Hb.out, if_pos Hin2.out, ← Hl.out]) (by rw [symC, if_pos Hb.out, if_pos Hin2.out]) hE
    · have Hin := Lib.hid hin
      have hno : pb (0 ≤ s ∧ s ≤ (p.length : Int) - 1) = false := pb_false (by rw [← Hl.out]; exact hin)
      have Hno := Lib.hid hno
      clear hin hno h
      go_enter Try.func95, Try.ntmps95
      go_wp2_with fail
      refine (l06Ok_any _ _ _ p _ hp).mono ?_
      rintro e w2 ⟨rfl, hE0⟩
      rw [hb]
      go_wp2_with fail
      refine (l00In_any _ _ _ false (decide_eq_false Hin.out) _).mono ?_
      rintro e w3 ⟨rfl, rfl⟩
      go_wp2
      go_ret2
      exact RetIC.nil_ (by rw [symM, if_pos Hb.out, Hno.out]; rfl) (by rw [symC, if_pos Hb.out, Hno.out]; rfl) hE0
  · have hb : pb (SqOk p) = false := pb_false h
    have Hb := Lib.hid hb
    go_enter Try.func95, Try.ntmps95
    go_wp2_with fail
    refine (l06Ok_any _ _ _ p _ hp).mono ?_
    rintro e w2 ⟨rfl, hE⟩
    rw [hb]
    go_wp2
    go_ret2
    exact RetIC.nil_ (by rw [symM, Hb.out]; rfl) (by rw [symC, Hb.out]; rfl) hE
end Go.Proofs.Ytkapkieeafhaoaa
