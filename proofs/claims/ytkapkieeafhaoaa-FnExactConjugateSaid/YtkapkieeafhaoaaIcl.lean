/- The intercalates of a square, of both. Conditions: none. -/
import Derived.Test.YtkapkieeafhaoaaIclP
import Derived.Test.YtkapkieeafhaoaaApp
import Derived.Test.YtkapkieeafhaoaaSl
import Derived.Test.YtkapkieeafhaoaaRis
import Derived.Test.YtkapkieeafhaoaaSqS
import Derived.Test.YtkapkieeafhaoaaSqI
namespace Go.Proofs.Ytkapkieeafhaoaa
open Go.RowKit

/-- Four cells of a square. -/
theorem RdR.four {w : World} {a : Option Addr} {n c : Nat} {p : List (List Int)} (h : RdR w a n c p) (hr : Rect p n n) {r s x y : Nat} (h1 : r < n) (h2 : s < n) (h3 : x < n) (h4 : y < n) :
    ∃ b o b1 o1 c1 b2 o2 c2, a = some ⟨b, o, none⟩ ∧ w.cell? ⟨b, o + r, none⟩ = some (.slice (some ⟨b1, o1, none⟩) n c1) ∧ w.cell? ⟨b, o + s, none⟩ = some (.slice (some ⟨b2, o2, none⟩) n c2) ∧
      w.cell? ⟨b1, o1 + x, none⟩ = some (.int .i64 (at2 p r x)) ∧ w.cell? ⟨b1, o1 + y, none⟩ = some (.int .i64 (at2 p r y)) ∧ w.cell? ⟨b2, o2 + x, none⟩ = some (.int .i64 (at2 p s x)) ∧ w.cell? ⟨b2, o2 + y, none⟩ = some (.int .i64 (at2 p s y)) := by
  obtain ⟨b, o, ar, cr, rfl, k1, g1⟩ := h.row hr h1
  obtain ⟨b', o', as_, cs, hh, k2, g2⟩ := h.row hr h2
  cases hh
  obtain ⟨b1, o1, rfl, e1⟩ := g1.cell2 h3
  obtain ⟨b1', o1', hh, e2⟩ := g1.cell2 h4
  cases hh
  obtain ⟨b2, o2, rfl, e3⟩ := g2.cell2 h3
  obtain ⟨b2', o2', hh, e4⟩ := g2.cell2 h4
  cases hh
  exact ⟨b, o, b1, o1, cr, b2, o2, cs, rfl, k1, k2, e1, e2, e3, e4⟩

/-- The slice expression s[m:]. -/
theorem Rd.from_ {α : Type} {R : World → Value → α → Prop} {w : World} {b o : Nat} {n c : Nat} {xs : List α} (h : Rd R w (some ⟨b, o, none⟩) n c xs) {m : Nat} (hm : m ≤ n) : Rd R w (some ⟨b, o + m, none⟩) (n - m) (c - m) (xs.drop m) :=
  ⟨by have := h.len; rw [List.length_drop]; omega, by have := h.le; omega, by have := h.max; omega, fun e => (by cases e), fun k x hx => by
    rw [List.getElem?_drop] at hx
    obtain ⟨b', o', v, h1, h2, h3⟩ := h.get (m + k) x hx
    cases h1
    exact ⟨b, o + m, v, rfl, by rw [show o + m + k = o + (m + k) by omega]; exact h2, h3⟩⟩

theorem rises2 {n r s : Nat} (h1 : r < s) (h2 : s < n) : Rises [(r : Int), (s : Int)] 0 ((n : Int) - 1) := by
  intro i hi
  have hi' : i < 2 := hi
  by_cases e : i = 0
  · subst e
    exact ⟨⟨by show (0 : Int) ≤ (r : Int); omega, by show (r : Int) ≤ (n : Int) - 1; omega⟩, fun h => by omega⟩
  · obtain rfl : i = 1 := by omega
    exact ⟨⟨by show (0 : Int) ≤ (s : Int); omega, by show (s : Int) ≤ (n : Int) - 1; omega⟩, fun _ => by show (r : Int) < (s : Int); omega⟩

set_option maxRecDepth 100000 in
set_option maxHeartbeats 3200000 in
theorem l08Intercalate_any (a : Option Addr) (n c : Nat) (p : List (List Int)) (g : Nat) (r s x y : Nat) (w : World) (hp : RdR w a n c p) (hr : Rect p n n) (hn : n ≤ 10) (hq : RdI w (some ⟨g, 0, none⟩) 4 4 [(r : Int), (s : Int), (x : Int), (y : Int)])
    (h1 : r < s) (h2 : s < n) (h3 : x < y) (h4 : y < n) :
    Calls Try.prog 80 #[.slice a n c, .slice (some ⟨g, 0, none⟩) 4 4] w fun e w' => e = .returned (.bool (icOk p r s x y)) ∧ Q w w' := by
  have hb1 := hp.le
  have hb2 := hp.max
  obtain ⟨b, o, b1, o1, c1, b2, o2, c2, rfl, k1, k2, e1, e2, e3, e4⟩ := hp.four hr (r := r) (s := s) (x := x) (y := y) (by omega) h2 (by omega) h4
  have q0 : w.cell? ⟨g, 0, none⟩ = some (.int .i64 r) := by obtain ⟨_, _, _, h5, h6, h7⟩ := hq.get 0 _ rfl; cases h5; cases h7; simpa using h6
  have q1 : w.cell? ⟨g, 1, none⟩ = some (.int .i64 s) := by obtain ⟨_, _, _, h5, h6, h7⟩ := hq.get 1 _ rfl; cases h5; cases h7; simpa using h6
  have q2 : w.cell? ⟨g, 2, none⟩ = some (.int .i64 x) := by obtain ⟨_, _, _, h5, h6, h7⟩ := hq.get 2 _ rfl; cases h5; cases h7; simpa using h6
  have q3 : w.cell? ⟨g, 3, none⟩ = some (.int .i64 y) := by obtain ⟨_, _, _, h5, h6, h7⟩ := hq.get 3 _ rfl; cases h5; cases h7; simpa using h6
  have hr1 := hq.cut (m := 2) (by omega)
  have hr2 := Rd.from_ hq (m := 2) (by omega)
  have p1 : pb (Rises ([(r : Int), (s : Int), (x : Int), (y : Int)].take 2) 0 ((n : Int) - 1)) = true := pb_true (rises2 h1 h2)
  have p2 : pb (Rises ([(r : Int), (s : Int), (x : Int), (y : Int)].drop 2) 0 ((n : Int) - 1)) = true := pb_true (rises2 h3 h4)
  have z1 : (r : Int) < (n : Int) := by omega
  have z2 : (s : Int) < (n : Int) := by omega
  have z3 : (x : Int) < (n : Int) := by omega
  have z4 : (y : Int) < (n : Int) := by omega
  have P1 := Lib.hid p1
  have P2 := Lib.hid p2
  clear hp hr hq p1 p2
  obtain ⟨v1, hv1⟩ : ∃ v, (at2 p r x == at2 p s y) = v := ⟨_, rfl⟩
  obtain ⟨v2, hv2⟩ : ∃ v, (at2 p r y == at2 p s x) = v := ⟨_, rfl⟩
  have ev : icOk p r s x y = (v1 && v2) := by rw [icOk, hv1, hv2]
  rw [ev]
  clear ev
  go_enter Try.func80, Try.ntmps80
  go_wp2_with fail
  refine (l00Rises_any _ _ _ _ _ _ _ hr1).mono ?_
  rintro e w2 ⟨rfl, hQ1⟩
  rw [P1.out]
  go_wp2_with fail
  refine (l00Rises_any _ _ _ _ _ _ _ (hr2.ext lastsI hQ1.ext)).mono ?_
  rintro e w3 ⟨rfl, hQ2⟩
  rw [P2.out]
  have hQ := hQ1.trans hQ2
  replace q0 := hQ.ext.cell q0
  replace q1 := hQ.ext.cell q1
  replace q2 := hQ.ext.cell q2
  replace q3 := hQ.ext.cell q3
  replace k1 := hQ.ext.cell k1
  replace k2 := hQ.ext.cell k2
  replace e1 := hQ.ext.cell e1
  replace e2 := hQ.ext.cell e2
  replace e3 := hQ.ext.cell e3
  replace e4 := hQ.ext.cell e4
  clear hr1 hr2 hQ1 hQ2
  cases v1
  · go_wp2_with fail
    go_quiet (fail)
    go_wp2
    go_ret
    exact ⟨rfl, hQ.drewN _⟩
  · go_wp2_with fail
    go_quiet (fail)
    go_wp2
    go_ret
    exact ⟨rfl, hQ.drewN _⟩

set_option maxRecDepth 100000 in
set_option maxHeartbeats 3200000 in
theorem intercalatesOf_any (a : Option Addr) (n c : Nat) (p : List (List Int)) (w0 : World) (hp : RdR w0 a n c p) (hrc : Rect p n n) (hn : n ≤ 10) :
    Calls Try.prog 83 #[.slice a n c] w0 (RetR w0 (icR p n n)) := by
  have hb1 := hp.le
  have hb2 := hp.max
  have Hr := Lib.hid hrc
  clear hrc
  go_enter Try.func83, Try.ntmps83
  go_wp2_with fail
  refine (sizeR_any _ _ _ _).mono ?_
  rintro e w2 ⟨rfl, rfl⟩
  go_wp2
  go_loopg [3, 5] n (fun gh sl i wr => ∃ (r m : Nat) (ad : Option Addr) (d : Nat) (rs : List Row), r ≤ n ∧ gh = n - r ∧ i = .int .i64 r ∧ sl = .slice ad m d ∧ OwnR wr w0.heap.size ad m d (icR p n r) rs ∧ Ext w0 wr)
  case atStart => exact ⟨0, 0, _, 0, [], Nat.zero_le _, rfl, rfl, rfl, OwnR.nil_ _ _, Ext.refl _⟩
  case round =>
    obtain ⟨r, m1, ad1, d1, rs1, hr, rfl, rfl, rfl, hO1, hE1⟩ := hrel
    by_cases hrn : r < n
    · have hz1 : (r : Int) < (n : Int) := by omega
      rw [← List.append_nil (icR p n r), ← icS_start p n r] at hO1
      go_wp2
      go_loopg [3, 6] (n - (r + 1)) (fun gh sl i wr => ∃ (s m : Nat) (ad : Option Addr) (d : Nat) (rs : List Row), r + 1 ≤ s ∧ s ≤ n ∧ gh = n - s ∧ i = .int .i64 s ∧ sl = .slice ad m d ∧ OwnR wr w0.heap.size ad m d (icR p n r ++ icS p n r s) rs ∧ Ext w0 wr)
      case atStart => exact ⟨r + 1, m1, ad1, d1, rs1, Nat.le_refl _, by omega, by omega, by go_num, rfl, hO1, hE1⟩
      case round =>
        obtain ⟨s, m2, ad2, d2, rs2, hs1, hs2, rfl, rfl, rfl, hO2, hE2⟩ := hrel
        clear hO1 hE1
        by_cases hsn : s < n
        · have hz2 : (s : Int) < (n : Int) := by omega
          have hO2' : OwnR wr w0.heap.size ad2 m2 d2 ((icR p n r ++ icS p n r s) ++ icC p n r s 0) rs2 := by rw [show icC p n r s 0 = [] from rfl, List.append_nil]; exact hO2
          clear hO2
          go_wp2
          go_loopg [3, 7] n (fun gh sl i wr => ∃ (c m : Nat) (ad : Option Addr) (d : Nat) (rs : List Row), c ≤ n ∧ gh = n - c ∧ i = .int .i64 c ∧ sl = .slice ad m d ∧ OwnR wr w0.heap.size ad m d ((icR p n r ++ icS p n r s) ++ icC p n r s c) rs ∧ Ext w0 wr)
          case atStart => exact ⟨0, m2, ad2, d2, rs2, Nat.zero_le _, rfl, rfl, rfl, hO2', hE2⟩
          case round =>
            obtain ⟨x, m3, ad3, d3, rs3, hx, rfl, rfl, rfl, hO3, hE3⟩ := hrel
            clear hO2' hE2
            by_cases hxn : x < n
            · have hz3 : (x : Int) < (n : Int) := by omega
              rw [← List.append_nil ((icR p n r ++ icS p n r s) ++ icC p n r s x), ← icD_start p r s x] at hO3
              go_wp2
              go_loopg [3, 8] (n - (x + 1)) (fun gh sl i wr => ∃ (y m : Nat) (ad : Option Addr) (d : Nat) (rs : List Row), x + 1 ≤ y ∧ y ≤ n ∧ gh = n - y ∧ i = .int .i64 y ∧ sl = .slice ad m d ∧ OwnR wr w0.heap.size ad m d (icTo p n r s x y) rs ∧ Ext w0 wr)
              case atStart => exact ⟨x + 1, m3, ad3, d3, rs3, Nat.le_refl _, by omega, by omega, by go_num, rfl, hO3, hE3⟩
              case round =>
                obtain ⟨y, m4, ad4, d4, rs4, hy1, hy2, rfl, rfl, rfl, hO4, hE4⟩ := hrel
                clear hO3 hE3
                by_cases hyn : y < n
                · have hz4 : (y : Int) < (n : Int) := by omega
                  have hml : m4 ≤ 100000 := by rw [hO4.len]; exact icTo_len hn hr hs2 hx hy2
                  have est : icTo p n r s x (y + 1) = icTo p n r s x y ++ ic1 p r s x y := by rw [icTo, icTo, icD_succ _ _ _ _ _ hy1, ← List.append_assoc]
                  have Est := Lib.hid est
                  clear est
                  obtain ⟨b, o, b1, o1, c1, b2, o2, c2, rfl, k1, k2, e1, e2, e3, e4⟩ := (hp.ext hE4).four Hr.out hrn hsn hxn hyn
                  obtain ⟨v1, hv1⟩ : ∃ v, (at2 p r x == at2 p s y) = v := ⟨_, rfl⟩
                  obtain ⟨v2, hv2⟩ : ∃ v, (at2 p r y == at2 p s x) = v := ⟨_, rfl⟩
                  have Hv0 : Hid (icOk p r s x y = (v1 && v2)) := Lib.hid (by rw [icOk, hv1, hv2])
                  have no : (v1 && v2) = false → icTo p n r s x (y + 1) = icTo p n r s x y := fun h => by rw [Est.out, ic1, Hv0.out, h]; simp
                  have No := Lib.hid no
                  clear no
                  have hOd : ∀ k, OwnR (wr.drewN k) w0.heap.size ad4 m4 d4 (icTo p n r s x y) rs4 := fun k => hO4.ext ((Ext.refl _).drewN k)
                  have hEd : ∀ k, Ext w0 (wr.drewN k) := fun k => hE4.drewN k
                  cases v1
                  · go_wp2_with fail
                    go_quiet (fail)
                    rename_i nq
                    have hO5 := hOd nq
                    rw [← No.out rfl] at hO5
                    go_wp2
                    go_roundg (n - (y + 1))
                    case measure => go_light; omega
                    case rel => go_light; exact ⟨y + 1, m4, ad4, d4, rs4, by omega, by omega, rfl, by go_num, rfl, hO5, hEd _⟩
                  · go_wp2_with fail
                    go_quiet (fail)
                    cases v2
                    · rename_i nq
                      have hO5 := hOd nq
                      rw [← No.out rfl] at hO5
                      go_wp2
                      go_roundg (n - (y + 1))
                      case measure => go_light; omega
                      case rel => go_light; exact ⟨y + 1, m4, ad4, d4, rs4, by omega, by omega, rfl, by go_num, rfl, hO5, hEd _⟩
                    · rename_i nq
                      have Hv : Hid (icOk p r s x y = true) := Lib.hid (by rw [Hv0.out]; rfl)
                      obtain ⟨wq, hwq⟩ : ∃ wq, wr.drewN nq = wq := ⟨_, rfl⟩
                      have hO5 := hOd nq
                      have hE5 := hEd nq
                      rw [hwq] at hO5 hE5 ⊢
                      clear hwq hOd hEd hO4 hE4 k1 k2 e1 e2 e3 e4
                      have hEa := hE5.alloc (.cells #[.int .i64 r, .int .i64 s, .int .i64 x, .int .i64 y] 2)
                      have hOa := OwnR.ext hO5 ((Ext.refl _).alloc (.cells #[.int .i64 r, .int .i64 s, .int .i64 x, .int .i64 y] 2))
                      have hrowa : OwnI (wq.alloc (.cells #[.int .i64 r, .int .i64 s, .int .i64 x, .int .i64 y] 2)) w0.heap.size (some ⟨wq.heap.size, 0, none⟩) 4 4 [(r : Int), (s : Int), (x : Int), (y : Int)] := (Own.lit (n := 4) wq #[.int .i64 r, .int .i64 s, .int .i64 x, .int .i64 y] rfl (by unfold maxLen; omega) rfl).base (hE5.size)
                      have hap : ∀ g, blk (some (⟨wq.heap.size, 0, none⟩ : Addr)) = some g → ¬ OwnR.fp ad4 rs4 g := OwnR.young hO5 (Nat.le_refl _)
                      have hsz := hEa.size
                      go_wp2_with (at_builtin; refine app_S rfl _ _ rfl hOa hsz hrowa hap (by simp) (by omega) rfl rfl ?_; intro ad' d' w5 hrows honly hmv)
                      have hE5 := hEa.app hOa.top honly (Nat.le_refl _)
                      rw [show icTo p n r s x y ++ [[(r : Int), (s : Int), (x : Int), (y : Int)]] = icTo p n r s x (y + 1) by rw [Est.out, ic1, if_pos Hv.out]] at hrows
                      clear hEa hOa hrowa hap hsz honly hmv
                      go_wp2
                      go_roundg (n - (y + 1))
                      case measure => go_light; omega
                      case rel => go_light; exact ⟨y + 1, m4 + 1, ad', d', _, by omega, by omega, rfl, by go_num, rfl, hrows, hE5⟩
                · have hz4 : ¬ (y : Int) < (n : Int) := by omega
                  obtain rfl : n = y := by omega
                  have e : icTo p n r s x n = (icR p n r ++ icS p n r s) ++ icC p n r s (x + 1) := by rw [icTo, icC_succ, List.append_assoc (icR p n r ++ icS p n r s)]
                  rw [e] at hO4
                  clear e
                  go_wp2
                  go_roundg (n - (x + 1))
                  case measure => go_light; omega
                  case rel => go_light; exact ⟨x + 1, m4, ad4, d4, rs4, by omega, rfl, by go_num, rfl, hO4, hE4⟩
            · have hz3 : ¬ (x : Int) < (n : Int) := by omega
              obtain rfl : n = x := by omega
              rw [List.append_assoc, ← icS_succ _ _ _ _ hs1] at hO3
              go_wp2
              go_roundg (n - (s + 1))
              case measure => go_light; omega
              case rel => go_light; exact ⟨s + 1, m3, ad3, d3, rs3, by omega, by omega, rfl, by go_num, rfl, hO3, hE3⟩
        · have hz2 : ¬ (s : Int) < (n : Int) := by omega
          obtain rfl : n = s := by omega
          rw [← icR_succ] at hO2
          go_wp2
          go_roundg (n - (r + 1))
          case measure => go_light; omega
          case rel => go_light; exact ⟨r + 1, m2, ad2, d2, rs2, by omega, rfl, by go_num, rfl, hO2, hE2⟩
    · have hz1 : ¬ (r : Int) < (n : Int) := by omega
      obtain rfl : n = r := by omega
      go_wp2
      go_ret
      exact ⟨_, _, _, _, rfl, hO1, hE1⟩



end Go.Proofs.Ytkapkieeafhaoaa
