/- The sorted list of some lists, by the reference. Conditions: none. -/
import Derived.Test.YtjlfngnmmmaefaaSrf
import Derived.Test.YtjlfngnmmmaefaaRos
namespace Go.Proofs.Ytjlfngnmmmaefaa
open Go.RowKit

/-- A new list of rows made of a part, a new row and the rest. -/
theorem put_rows {wi w1 w2 w3 w4 : World} {B : Nat} {a3 : Option Addr} {k c3 : Nat} {xss : List (List Int)} {rs : List Row} (hO : OwnR wi B a3 k c3 xss rs) (hB : B ≤ wi.heap.size) {J : Nat} (hJ : J ≤ k)
    {ad1 : Option Addr} {n1 c1 : Nat} {l1 : List Row} (h1 : OwnT w1 wi.heap.size ad1 n1 c1 l1) (E1 : Ext wi w1) {ar : Option Addr} {nr cr : Nat} {v : List Int} (hR : OwnI w2 w1.heap.size ar nr cr v) (E2 : Ext w1 w2)
    {ad2 : Option Addr} (ho2 : Only (onlyA ad1) w2 w3) (hm2 : Moved w2 ad1 ad2) {ad3 : Option Addr} {n3 c4 : Nat} (h3 : OwnT w4 wi.heap.size ad3 n3 c4 (rs.take J ++ (ar, nr, cr) :: rs.drop J)) (ho3 : Only (onlyA ad2) w3 w4) (hm3 : Moved w3 ad2 ad3)
    (s3 : w2.heap.size ≤ w3.heap.size) : OwnR w4 B ad3 n3 c4 (xss.take J ++ v :: xss.drop J) (rs.take J ++ (ar, nr, cr) :: rs.drop J) := by
  have z1 := E1.size
  have z2 := E2.size
  have hrl := hO.rlen
  have hol := hO.len
  have old : ∀ r', r' ∈ rs → ∀ g, blk r'.1 = some g → B ≤ g ∧ g < wi.heap.size := fun r' hr' g hg => hO.lt (.inr ⟨r', hr', hg⟩)
  have new : ∀ g, blk ar = some g → w1.heap.size ≤ g ∧ g < w2.heap.size := fun g hg => hR.lt hg
  have b1 : ∀ g, blk ad1 = some g → wi.heap.size ≤ g ∧ g < w1.heap.size := fun g hg => h1.lt hg
  have b2 : ∀ g, blk ad2 = some g → wi.heap.size ≤ g ∧ (g < w1.heap.size ∨ w2.heap.size ≤ g) := fun g hg => by
    rcases hm2 with hm | ⟨g', hm, hlt⟩
    · rw [hm] at hg; have := b1 g hg; omega
    · rw [hm] at hg; cases hg; omega
  have b3 : ∀ g, blk ad3 = some g → wi.heap.size ≤ g ∧ (g < w1.heap.size ∨ w2.heap.size ≤ g) := fun g hg => by
    rcases hm3 with hm | ⟨g', hm, hlt⟩
    · rw [hm] at hg; exact b2 g hg
    · rw [hm] at hg; cases hg; omega
  have hrows := ((hO.rowsO.ext E1).ext E2).put (r := (ar, nr, cr)) (hR.base (show B ≤ w1.heap.size by omega)) (fun r' hr' g hg e => by have := old r' hr' g e; have := new g hg; omega) (k := J) (by omega)
  have mem : ∀ r', r' ∈ rs.take J ++ (ar, nr, cr) :: rs.drop J → r' ∈ rs ∨ r' = (ar, nr, cr) := fun r' hr' => by
    rcases List.mem_append.1 hr' with h | h
    · exact .inl (List.mem_of_mem_take h)
    · rcases List.mem_cons.1 h with h | h
      · exact .inr h
      · exact .inl (List.mem_of_mem_drop h)
  have where_ : ∀ r', r' ∈ rs.take J ++ (ar, nr, cr) :: rs.drop J → ∀ g, blk r'.1 = some g → g < wi.heap.size ∨ (w1.heap.size ≤ g ∧ g < w2.heap.size) := fun r' hr' g hg => by
    rcases mem r' hr' with h | h
    · exact .inl (old r' h g hg).2
    · subst h; exact .inr (new g hg)
  have hrows4 := (hrows.only ho2 (fun r' hr' g hg e => by have := where_ r' hr' g hg; have := b1 g e; omega)).only ho3 (fun r' hr' g hg e => by have := where_ r' hr' g hg; have := b2 g e; omega)
  exact hrows4.own (h3.base hB) (fun r' hr' g hg e => by have := where_ r' hr' g hg; have := b3 g e; omega)

theorem gr_take_perm {p : List (List Int)} {k : Nat} (hk : k < p.length) : p.take (k + 1) = p.take k ++ [gr p k] := by
  obtain ⟨h1, h2⟩ := List.getElem?_eq_some_iff.1 (gr_get hk)
  rw [List.take_succ_eq_append_getElem h1, h2]

/-- Putting a list in behind all that are not greater. -/
theorem putLL_sorted {xss : List (List Int)} {v : List Int} {J : Nat} (hs : SortedLL xss) (h1 : ∀ i, J ≤ i → i < xss.length → 0 < cmpL (gr xss i) v) (h2 : 0 < J → J ≤ xss.length → cmpL (gr xss (J - 1)) v ≤ 0) (hJ : J ≤ xss.length) :
    SortedLL (xss.take J ++ v :: xss.drop J) := by
  unfold SortedLL at *
  have hs2 : (xss.take J ++ xss.drop J).Pairwise fun x y => leL x y := by rw [List.take_append_drop]; exact hs
  rw [List.pairwise_append] at hs2
  have hlow : ∀ x, x ∈ xss.take J → leL x v := fun x hx => by
    obtain ⟨i, hi⟩ := List.mem_iff_getElem?.1 hx
    have hi1 := (List.getElem?_eq_some_iff.1 hi).1
    rw [List.length_take] at hi1
    rw [List.getElem?_take_of_lt (by omega)] at hi
    have hlast := h2 (by omega) hJ
    have e : x = gr xss i := (gr_of hi).symm
    rw [e]
    by_cases hl : i = J - 1
    · rw [hl]; exact hlast
    · have h3 := List.pairwise_iff_getElem.1 hs i (J - 1) (by omega) (by omega) (by omega)
      rw [← gr_of (List.getElem?_eq_getElem _), ← gr_of (List.getElem?_eq_getElem _)] at h3
      exact leL_trans h3 hlast
  have hhigh : ∀ x, x ∈ xss.drop J → leL v x := fun x hx => by
    obtain ⟨i, hi⟩ := List.mem_iff_getElem?.1 hx
    rw [List.getElem?_drop] at hi
    have hi1 := (List.getElem?_eq_some_iff.1 hi).1
    have h3 := h1 (J + i) (by omega) hi1
    rw [gr_of hi] at h3
    have h4 := cmpL_neg v x
    unfold leL
    omega
  rw [List.pairwise_append, List.pairwise_cons]
  refine ⟨hs2.1, ⟨hhigh, hs2.2.1⟩, fun x hx y hy => ?_⟩
  rcases List.mem_cons.1 hy with rfl | hy
  · exact hlow x hx
  · exact hs2.2.2 x hx y hy
theorem put_perm {xss : List (List Int)} {v : List Int} (J : Nat) : (xss.take J ++ v :: xss.drop J).Perm (xss ++ [v]) := by
  refine List.perm_middle.trans ?_
  rw [List.take_append_drop]
  exact (List.perm_append_singleton v xss).symm

set_option maxRecDepth 100000 in
set_option maxHeartbeats 6400000 in
theorem l10Sort_any (a : Option Addr) (n c : Nat) (p : List (List Int)) (w : World) (hx : RdR w a n c p) (ht : p.length + tot p ≤ 1048576) :
    Calls Try.prog 64 #[.slice a n c] w (RetR w (srtL p)) := by
  have hb1 := hx.le
  have hb2 := hx.max
  have Hl := Lib.hid hx.len
  have hn : n ≤ 1048576 := by have := Hl.out; omega
  have H0 := OwnR.empty w
  go_enter Try.func64, Try.ntmps64
  go_wp2
  go_loopg [3, 4] n (fun gh s i wr => ∃ (k m : Nat) (a3 : Option Addr) (c3 : Nat) (rs : List Row) (xss : List (List Int)), k ≤ n ∧ gh = n - k ∧ s = .slice a3 m c3 ∧ i = .int .i64 k ∧ OwnR wr w.heap.size a3 m c3 xss rs ∧ Hid (m = k) ∧ Hid (SortedLL xss ∧ xss.Perm (p.take k)) ∧ Hid (a3 ≠ none) ∧ Ext w wr)
  case atStart => exact ⟨0, 0, _, 0, [], [], Nat.zero_le _, rfl, rfl, rfl, H0, rfl, Lib.hid ⟨List.Pairwise.nil, List.Perm.nil⟩, Lib.hid (by simp), (Ext.refl _).alloc _⟩
  case round =>
    obtain ⟨k, m, a3, c3, rs, xss, hk, rfl, rfl, rfl, hO, Hmk, HS, HA, hE⟩ := hrel
    clear H0
    by_cases hlt : k < n
    · have hz : (k : Int) < (n : Int) := by omega
      obtain ⟨b, o, ai, ni, ci, rfl, hc0, hrow⟩ := hx.gr hlt
      obtain ⟨b3, rfl⟩ : ∃ b3, a3 = some ⟨b3, 0, none⟩ := by
        rcases hO.top.cases with ⟨h1, _⟩ | ⟨g, _, h1, _⟩
        · exact absurd h1 HA.out
        · exact ⟨g, h1⟩
      have hni : ni ≤ 1048576 := by have h1 := hrow.len; have h2 := len_le_tot (gr_get (p := p) (k := k) (by have := Hl.out; omega)); omega
      have Hxl := Lib.hid hO.len
      have hc3 := hO.top.le
      have hm1 : m ≤ 1048576 := by have := Hmk.out; omega
      go_wp2
      obtain ⟨wo, rfl⟩ : ∃ wo : World, wo = wr := ⟨_, rfl⟩
      go_loopg [5] m (fun gh i wi => ∃ j : Nat, j ≤ m ∧ gh = 1 * j ∧ i = .int .i64 j ∧ Q wo wi ∧ Hid (∀ i, j ≤ i → i < m → 0 < cmpL (gr xss i) (gr p k)))
      case atStart => exact ⟨m, Nat.le_refl _, (Nat.one_mul _).symm, rfl, Q.refl _, Lib.hid (fun i h1 h2 => absurd h2 (by omega))⟩
      case round =>
        obtain ⟨j, hj, rfl, rfl, hQ, HJ⟩ := hrel
        have hc := (hE.trans hQ.ext).cell hc0
        cases j with
        | zero =>
          go_wp2_with fail
          go_quiet (fail)
          have hQw := hQ.drewN nq
          generalize wr.drewN nq = wi at hQw ⊢
          have hOw := hO.ext hQw.ext
          have hEw := hE.trans hQw.ext
          have hcw := hEw.cell hc0
          have hTop : RdT _ _ _ _ _ := hOw.top.rdT
          have hTail := Rd.from_ hTop (m := 0) (by omega)
          rw [Nat.zero_add] at hTail
          have hN0 : OwnT (wi.alloc (.cells #[] 26)) wi.heap.size (some ⟨wi.heap.size, 0, none⟩) 0 0 [] := Own.empty 26 Row.val wi
          have hT1 : RdT (wi.alloc (.cells #[] 26)) (some ⟨b3, 0, none⟩) (0) c3 (rs.take (0)) := Rd.ext lastsRow (Rd.cut hTop (m := 0) (by omega)) ((Ext.refl wi).alloc _)
          have HSw : Hid (SortedLL (xss.take (0) ++ gr p k :: xss.drop (0)) ∧ (xss.take (0) ++ gr p k :: xss.drop (0)).Perm (p.take (k + 1))) := Lib.hid ⟨putLL_sorted HS.out.1 (fun i h1 h2 => HJ.out i h1 (by rw [Hxl.out]; exact h2)) (fun h => absurd h (Nat.lt_irrefl _)) (by rw [← Hxl.out]; omega), by
            rw [show p.take (k + 1) = p.take k ++ [gr p k] from gr_take_perm (by have := Hl.out; omega)]
            exact (put_perm _).trans (HS.out.2.append_right _)⟩
          clear hQ hc hE hO HJ
          by_cases hcut : c3 = 0
          · have Hcut := Lib.hid hcut
            have hT1' : RdT (wi.alloc (.cells #[] 26)) (some ⟨b3, 0, none⟩) 0 0 (rs.take 0) := by rw [List.take_zero]; exact rd_none rfl (by omega)
            have hcutT : (c3 = 0) = True := eq_true hcut
            clear hcut
            go_wp2_with (at_builtin; refine app_rows rfl _ _ rfl hN0 (by simp) hT1' (by omega) rfl rfl ?_; intro ad1 c1 w1 hr1 ho1 hm1; have E1 : Ext wi w1 := ((Ext.refl wi).alloc _).app hN0 ho1 (Nat.le_refl _); have hc1 := E1.cell hcw)
            rw [Nat.zero_add, List.nil_append] at hr1
            refine (l00Own_any _ _ _ (gr p k) _ (hrow.ext (hEw.trans E1)) (by omega)).mono ?_
            rintro e w2 ⟨ar, nr, cr, rfl, hR, E2⟩
            have hr1b := hr1.ext E2
            have hszB := (E1.trans E2).size
            go_wp2_with (first | (at_builtin; refine app_rows rfl _ _ rfl hr2 hszC hT3 (by omega) rfl rfl ?_; intro ad3 c4 w4 hr3 ho3 hm3) | (at_builtin; refine app_T rfl _ _ rfl hr1b hszB rfl (by omega) rfl rfl ?_; intro ad2 c2 w3 hr2 ho2 hm2; have E3 : Ext wi w3 := (E1.trans E2).app hr1b ho2 (Nat.le_refl _); have hszC := E3.size; have hT3 := rd_none (R := IsRow) (w := w3) (b := b3) (o := 0) (n := m - (0)) (c := 0) (by have := Hcut.out; omega) (by omega)))
            rw [List.append_assoc, List.singleton_append] at hr3
            have hJm : rs.drop (0) = [] := List.drop_eq_nil_of_le (by have := hOw.rlen; have := hOw.len; have := Hcut.out; omega)
            rw [← hJm] at hr3
            have hOn := put_rows hOw hEw.size (J := 0) (by omega) hr1 E1 hR E2 ho2 hm2 hr3 ho3 hm3 (Only.size ho2)
            have E4 : Ext wi w4 := E3.app hr2 ho3 (Nat.le_refl _)
            have hEn := hEw.trans E4
            have HAn : Hid (ad3 ≠ none) := Lib.hid (by
              intro e
              subst e
              have h8 := hr3.nil_len
              have h9 := hr3.len
              simp at h9
              omega)
            clear hOw hTop hTail hN0 hT1 hr1 hr1b hr2 hr3 hT3 ho1 ho2 ho3 hm1 hm2 hm3 hR E1 E2 E3 E4 hszB hszC hcw hQw hc1 hcutT hT1'
            go_wp2
            go_roundg (n - (k + 1))
            case measure => go_light; omega
            case rel => go_light; exact ⟨k + 1, _, ad3, c4, _, _, by omega, rfl, rfl, by go_num, hOn, Lib.hid (by have := Hmk.out; omega), HSw, HAn, hEn⟩
          · have hcut2 : ¬ c3 = 0 := by omega
            clear hcut
            go_wp2_with (at_builtin; refine app_rows rfl _ _ rfl hN0 (by simp) hT1 (by omega) rfl rfl ?_; intro ad1 c1 w1 hr1 ho1 hm1; have E1 : Ext wi w1 := ((Ext.refl wi).alloc _).app hN0 ho1 (Nat.le_refl _); have hc1 := E1.cell hcw)
            rw [Nat.zero_add, List.nil_append] at hr1
            refine (l00Own_any _ _ _ (gr p k) _ (hrow.ext (hEw.trans E1)) (by omega)).mono ?_
            rintro e w2 ⟨ar, nr, cr, rfl, hR, E2⟩
            have hr1b := hr1.ext E2
            have hszB := (E1.trans E2).size
            go_wp2_with (first | (at_builtin; refine app_rows rfl _ _ rfl hr2 hszC hT3 (by omega) rfl rfl ?_; intro ad3 c4 w4 hr3 ho3 hm3) | (at_builtin; refine app_T rfl _ _ rfl hr1b hszB rfl (by omega) rfl rfl ?_; intro ad2 c2 w3 hr2 ho2 hm2; have E3 : Ext wi w3 := (E1.trans E2).app hr1b ho2 (Nat.le_refl _); have hszC := E3.size; have hT3 := Rd.ext lastsRow hTail E3))
            rw [List.append_assoc, List.singleton_append] at hr3
            have hOn := put_rows hOw hEw.size (J := 0) (by omega) hr1 E1 hR E2 ho2 hm2 hr3 ho3 hm3 (Only.size ho2)
            have E4 : Ext wi w4 := E3.app hr2 ho3 (Nat.le_refl _)
            have hEn := hEw.trans E4
            have HAn : Hid (ad3 ≠ none) := Lib.hid (by
              intro e
              subst e
              have h8 := hr3.nil_len
              have h9 := hr3.len
              simp at h9
              omega)
            clear hOw hTop hTail hN0 hT1 hr1 hr1b hr2 hr3 hT3 ho1 ho2 ho3 hm1 hm2 hm3 hR E1 E2 E3 E4 hszB hszC hcw hQw hc1 hcut2
            go_wp2
            go_roundg (n - (k + 1))
            case measure => go_light; omega
            case rel => go_light; exact ⟨k + 1, _, ad3, c4, _, _, by omega, rfl, rfl, by go_num, hOn, Lib.hid (by have := Hmk.out; omega), HSw, HAn, hEn⟩
        | succ j =>
          obtain ⟨b4, o4, a5, n5, c5, hh, hc5, hrow5⟩ := (hO.rd.ext hQ.ext).gr (k := j) (by omega)
          cases hh
          rw [Nat.zero_add] at hc5
          have kc : ∀ m, Calls Try.prog 85 #[.slice a5 n5 c5, .slice ai ni ci] (wr.drewN m) fun e w' => e = .returned (.int .i64 (cmpL (gr xss j) (gr p k))) ∧ Q (wr.drewN m) w' := fun m =>
            cmpLists_any a5 ai n5 c5 ni ci (gr xss j) (gr p k) (wr.drewN m) (hrow5.ext ((Ext.refl _).drewN _)) (hrow.ext ((hE.trans hQ.ext).trans ((Ext.refl _).drewN _)))
          have hz2 : (j : Int) < (m : Int) := by omega
          have hd : decide ((0 : Int) < (j : Int) + 1) = true := decide_eq_true (by omega)
          have hd1 : (0 : Int) < (j : Int) + 1 := by omega
          have hw1 : IntKind.i64.wrap (j : Int) = (j : Int) := IntWalk.i64_in _ (by omega)
          by_cases h1 : 0 < cmpL (gr xss j) (gr p k)
          · have hg : decide (0 < cmpL (gr xss j) (gr p k)) = true := decide_eq_true h1
            have H1 := Lib.hid h1
            clear h1
            go_wp2_with fail
            go_quiet ((go_at_call 85; exact quiet_q (kc _)))
            have HJ2 : Hid (∀ i, j ≤ i → i < m → 0 < cmpL (gr xss i) (gr p k)) := Lib.hid (fun i h1 h2 => by
              by_cases e : i = j
              · subst e; exact H1.out
              · exact HJ.out i (by omega) h2)
            clear hw1 hd hd1 kc
            go_wp2
            go_roundg (1 * j)
            case measure => go_light; omega
            case rel => go_light; exact ⟨j, by omega, rfl, by go_num, hQ.drewN _, HJ2⟩
          · have hg : decide (0 < cmpL (gr xss j) (gr p k)) = false := decide_eq_false h1
            have H1 := Lib.hid h1
            clear h1
            go_wp2_with fail
            go_quiet ((go_at_call 85; exact quiet_q (kc _)))
            clear hw1 hd hd1
            have hQw := hQ.drewN nq
            generalize wr.drewN nq = wi at hQw ⊢
            have hOw := hO.ext hQw.ext
            have hEw := hE.trans hQw.ext
            have hcw := hEw.cell hc0
            have hTop : RdT _ _ _ _ _ := hOw.top.rdT
            have hTail := Rd.from_ hTop (m := j + 1) (by omega)
            rw [Nat.zero_add] at hTail
            have hN0 : OwnT (wi.alloc (.cells #[] 26)) wi.heap.size (some ⟨wi.heap.size, 0, none⟩) 0 0 [] := Own.empty 26 Row.val wi
            have hT1 : RdT (wi.alloc (.cells #[] 26)) (some ⟨b3, 0, none⟩) (j + 1) c3 (rs.take (j + 1)) := Rd.ext lastsRow (Rd.cut hTop (m := j + 1) (by omega)) ((Ext.refl wi).alloc _)
            have HSw : Hid (SortedLL (xss.take (j + 1) ++ gr p k :: xss.drop (j + 1)) ∧ (xss.take (j + 1) ++ gr p k :: xss.drop (j + 1)).Perm (p.take (k + 1))) := Lib.hid ⟨putLL_sorted HS.out.1 (fun i h1 h2 => HJ.out i h1 (by rw [Hxl.out]; exact h2)) (fun _ _ => by rw [Nat.add_sub_cancel]; have := H1.out; omega) (by rw [← Hxl.out]; omega), by
              rw [show p.take (k + 1) = p.take k ++ [gr p k] from gr_take_perm (by have := Hl.out; omega)]
              exact (put_perm _).trans (HS.out.2.append_right _)⟩
            clear hQ hc hE hO HJ kc hrow5 hc5 hg hz2
            by_cases hcut : c3 = j + 1
            · have Hcut := Lib.hid hcut
              have hcutT : (c3 = j + 1) = True := eq_true hcut
              clear hcut
              go_wp2_with (at_builtin; refine app_rows rfl _ _ rfl hN0 (by simp) hT1 (by omega) rfl rfl ?_; intro ad1 c1 w1 hr1 ho1 hm1; have E1 : Ext wi w1 := ((Ext.refl wi).alloc _).app hN0 ho1 (Nat.le_refl _); have hc1 := E1.cell hcw)
              rw [Nat.zero_add, List.nil_append] at hr1
              refine (l00Own_any _ _ _ (gr p k) _ (hrow.ext (hEw.trans E1)) (by omega)).mono ?_
              rintro e w2 ⟨ar, nr, cr, rfl, hR, E2⟩
              have hr1b := hr1.ext E2
              have hszB := (E1.trans E2).size
              go_wp2_with (first | (at_builtin; refine app_rows rfl _ _ rfl hr2 hszC hT3 (by omega) rfl rfl ?_; intro ad3 c4 w4 hr3 ho3 hm3) | (at_builtin; refine app_T rfl _ _ rfl hr1b hszB rfl (by omega) rfl rfl ?_; intro ad2 c2 w3 hr2 ho2 hm2; have E3 : Ext wi w3 := (E1.trans E2).app hr1b ho2 (Nat.le_refl _); have hszC := E3.size; have hT3 := rd_none (R := IsRow) (w := w3) (b := b3) (o := 0) (n := m - (j + 1)) (c := c3 - (j + 1)) (by have := Hcut.out; omega) (by omega)))
              rw [List.append_assoc, List.singleton_append] at hr3
              have hJm : rs.drop (j + 1) = [] := List.drop_eq_nil_of_le (by have := hOw.rlen; have := hOw.len; have := Hcut.out; omega)
              rw [← hJm] at hr3
              have hOn := put_rows hOw hEw.size (J := j + 1) (by omega) hr1 E1 hR E2 ho2 hm2 hr3 ho3 hm3 (Only.size ho2)
              have E4 : Ext wi w4 := E3.app hr2 ho3 (Nat.le_refl _)
              have hEn := hEw.trans E4
              have HAn : Hid (ad3 ≠ none) := Lib.hid (by
                intro e
                subst e
                have h8 := hr3.nil_len
                have h9 := hr3.len
                simp at h9
                omega)
              clear hOw hTop hTail hN0 hT1 hr1 hr1b hr2 hr3 hT3 ho1 ho2 ho3 hm1 hm2 hm3 hR E1 E2 E3 E4 hszB hszC hcw hQw hc1 hcutT
              go_wp2
              go_roundg (n - (k + 1))
              case measure => go_light; omega
              case rel => go_light; exact ⟨k + 1, _, ad3, c4, _, _, by omega, rfl, rfl, by go_num, hOn, Lib.hid (by have := Hmk.out; omega), HSw, HAn, hEn⟩
            · have hcut2 : ¬ c3 = j + 1 := by omega
              clear hcut
              go_wp2_with (at_builtin; refine app_rows rfl _ _ rfl hN0 (by simp) hT1 (by omega) rfl rfl ?_; intro ad1 c1 w1 hr1 ho1 hm1; have E1 : Ext wi w1 := ((Ext.refl wi).alloc _).app hN0 ho1 (Nat.le_refl _); have hc1 := E1.cell hcw)
              rw [Nat.zero_add, List.nil_append] at hr1
              refine (l00Own_any _ _ _ (gr p k) _ (hrow.ext (hEw.trans E1)) (by omega)).mono ?_
              rintro e w2 ⟨ar, nr, cr, rfl, hR, E2⟩
              have hr1b := hr1.ext E2
              have hszB := (E1.trans E2).size
              go_wp2_with (first | (at_builtin; refine app_rows rfl _ _ rfl hr2 hszC hT3 (by omega) rfl rfl ?_; intro ad3 c4 w4 hr3 ho3 hm3) | (at_builtin; refine app_T rfl _ _ rfl hr1b hszB rfl (by omega) rfl rfl ?_; intro ad2 c2 w3 hr2 ho2 hm2; have E3 : Ext wi w3 := (E1.trans E2).app hr1b ho2 (Nat.le_refl _); have hszC := E3.size; have hT3 := Rd.ext lastsRow hTail E3))
              rw [List.append_assoc, List.singleton_append] at hr3
              have hOn := put_rows hOw hEw.size (J := j + 1) (by omega) hr1 E1 hR E2 ho2 hm2 hr3 ho3 hm3 (Only.size ho2)
              have E4 : Ext wi w4 := E3.app hr2 ho3 (Nat.le_refl _)
              have hEn := hEw.trans E4
              have HAn : Hid (ad3 ≠ none) := Lib.hid (by
                intro e
                subst e
                have h8 := hr3.nil_len
                have h9 := hr3.len
                simp at h9
                omega)
              clear hOw hTop hTail hN0 hT1 hr1 hr1b hr2 hr3 hT3 ho1 ho2 ho3 hm1 hm2 hm3 hR E1 E2 E3 E4 hszB hszC hcw hQw hc1 hcut2
              go_wp2
              go_roundg (n - (k + 1))
              case measure => go_light; omega
              case rel => go_light; exact ⟨k + 1, _, ad3, c4, _, _, by omega, rfl, rfl, by go_num, hOn, Lib.hid (by have := Hmk.out; omega), HSw, HAn, hEn⟩
    · have hz : ¬ (k : Int) < (n : Int) := by omega
      obtain rfl : n = k := by omega
      have he : xss = srtL p := srtL_of (by have := HS.out.2; rwa [Hl.out, List.take_length] at this) HS.out.1
      rw [he] at hO
      clear he
      go_wp2
      go_ret
      exact ⟨_, _, _, _, rfl, hO, hE⟩
end Go.Proofs.Ytjlfngnmmmaefaa
