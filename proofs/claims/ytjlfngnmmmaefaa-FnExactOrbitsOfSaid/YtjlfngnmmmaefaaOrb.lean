/- orbitOf, OrbitOf of both. Conditions: none. -/
import Derived.Test.YtjlfngnmmmaefaaCmpt
import Derived.Test.YtjlfngnmmmaefaaOrbP
import Derived.Test.YtjlfngnmmmaefaaSrt
import Derived.Test.YtjlfngnmmmaefaaPut
import Derived.Test.YtjlfngnmmmaefaaVg
namespace Go.Proofs.Ytjlfngnmmmaefaa
open Go.RowKit Go.Sort

/-- slices.Compact. -/
theorem slCompact1_any {E : TypeId} {B n c : Nat} {a : Option Addr} {xs : List Int} (w : World) (h : Own E (Value.int .i64) w B a n c xs) :
    Calls Try.prog 88 #[.slice a n c] w fun e w' => ∃ m, e = .returned (.slice a m c) ∧ Own E (Value.int .i64) w' B a m c (Lib.compact xs) ∧ Only (onlyA a) w w' := by
  have hl := h.len
  have hcl : (Lib.compact xs).length ≤ xs.length := by
    rw [Lib.compact, Lib.compactUpTo, List.length_map]
    exact Nat.le_trans (List.length_filter_le _ _) (by simp)
  rcases h.cases with ⟨rfl, rfl, rfl, rfl⟩ | ⟨g, cur, rfl, h2, h3, h4, h5, h6, h7⟩
  · refine (AnyG.slices_Compact_int_empty Try.cmptL none 0 w).mono ?_
    rintro e w' ⟨rfl, rfl⟩
    exact ⟨0, rfl, Own.nil_ _ _ _ _, Only.refl _ _⟩
  · subst hl
    refine (AnyG.slices_Compact_int Try.cmptL g 0 c xs w (own_holds h) (by unfold maxLen at h5; omega) h4).mono ?_
    rintro e w' ⟨rfl, m, rfl⟩
    have := own_put h (ys := Lib.compact xs ++ List.replicate (xs.length - (Lib.compact xs).length) 0) (by rw [List.length_append, List.length_replicate]; omega) m #[]
    rw [grow_empty] at this
    have h9 := this.1.take hcl (.inr (.inl (by simp)))
    rw [List.take_left] at h9
    exact ⟨_, rfl, h9, this.2⟩

set_option maxRecDepth 100000 in
set_option maxHeartbeats 1600000 in
theorem orbitOf_any (z : Int) (a : Option Addr) (n c : Nat) (p : List (List Int)) (x : Nat) (w : World) (hx : RdR w a n c p) (hp : ∀ q, q ∈ p → x < q.length) (hn : n ≤ 1048576) :
    Calls Try.prog 51 #[.agg #[.int .i64 z, .slice a n c], .int .i64 x] w (RetI w (orb p x)) := by
  have hb1 := hx.le
  have hb2 := hx.max
  have Hl := Lib.hid hx.len
  have hEW : Ext w (w.alloc (.cells #[.int .i64 z, .slice a n c] 29)) := (Ext.refl _).alloc _
  go_enter Try.func51, Try.ntmps51
  go_wp2
  go_loopg [5, 11] n (fun g s i wr => ∃ (k : Nat) (ad : Option Addr) (d : Nat), k ≤ n ∧ g = n - k ∧ i = .int .i64 k ∧ s = .slice ad k d ∧ OwnI wr w.heap.size ad k d (moved (p.take k) x) ∧ Ext w wr)
  case atStart => exact ⟨0, _, 0, Nat.zero_le _, rfl, rfl, rfl, Own.nil_ _ _ _ _, hEW⟩
  case round =>
    obtain ⟨k, ad, d, hk, rfl, rfl, rfl, hO, hE⟩ := hrel
    by_cases hlt : k < n
    · have hz : (k : Int) < (n : Int) := by omega
      have hxw := hx.ext hE
      obtain ⟨b, o, ai, ni, ci, rfl, hc, hrow⟩ := hxw.gr hlt
      have hxn : x < ni := by rw [hrow.len]; exact hp _ (List.mem_of_getElem? (gr_get (by rw [← Hl.out]; exact hlt)))
      have hzx : (x : Int) < (ni : Int) := by omega
      have hbx := hrow.le
      have hbm := hrow.max
      obtain ⟨b1, o1, rfl, hc1⟩ := hrow.gi hxn
      have hsz := hE.size
      clear hrow hxw
      go_wp2_with (at_builtin; refine app_I rfl _ _ rfl hO hsz rfl (by omega) rfl rfl ?_; intro ad' d' w3 hO3 honly hmv)
      have hE3 := hE.app hO honly (Nat.le_refl _)
      have hO4 : OwnI w3 w.heap.size ad' (k + 1) d' (moved (p.take (k + 1)) x) := by rw [moved_snoc (by rw [← Hl.out]; exact hlt)]; exact hO3
      clear hO3 honly hmv
      go_wp2
      go_roundg (n - (k + 1))
      case measure => go_light; omega
      case rel => go_light; exact ⟨k + 1, ad', d', by omega, by omega, by go_num, rfl, hO4, hE3⟩
    · have hz : ¬ (k : Int) < (n : Int) := by omega
      obtain rfl : n = k := by omega
      have hO2 : OwnI wr w.heap.size ad n d (moved p x) := by rw [← List.take_of_length_le (l := p) (i := n) (by have := Hl.out; omega)]; exact hO
      clear hO
      go_wp2_with fail
      refine (slSort_any wr hO2 (by omega)).mono ?_
      rintro e w2 ⟨rfl, hO3, ho3⟩
      have hE3 := hE.app hO2 ho3 (Nat.le_refl _)
      clear ho3
      go_wp2_with fail
      refine (slCompact1_any w2 hO3).mono ?_
      rintro e w4 ⟨m, rfl, hO5, ho5⟩
      have hE5 := hE3.app hO3 ho5 (Nat.le_refl _)
      rw [compact_puts] at hO5
      go_wp2
      go_ret
      exact ⟨_, _, _, rfl, hO5, hE5⟩

set_option maxRecDepth 100000 in
set_option maxHeartbeats 1600000 in
theorem l05Orbit_any (b0 : Nat) (z : Int) (a : Option Addr) (n c : Nat) (p : List (List Int)) (x : Nat) (w : World) (hB : Bx w b0 z a n c) (hx : RdR w a n c p) (hp : ∀ q, q ∈ p → x < q.length) (hn : n ≤ 1048576) :
    Calls Try.prog 49 #[.pointer (some ⟨b0, 0, none⟩), .int .i64 x] w (RetI w (orb p x)) := by
  have hb1 := hx.le
  have hb2 := hx.max
  have Hl := Lib.hid hx.len
  have HB := Lib.hid hB
  clear hB
  have H0 := Own.empty 2 (Value.int .i64) w
  go_enter Try.func49, Try.ntmps49
  go_wp2
  go_loopg [5, 6] n (fun g s i wr => ∃ (k : Nat) (ad : Option Addr) (m d : Nat), k ≤ n ∧ g = n - k ∧ i = .int .i64 k ∧ s = .slice ad m d ∧ OwnI wr w.heap.size ad m d (orb (p.take k) x) ∧ Ext w wr)
  case atStart => exact ⟨0, _, 0, 0, Nat.zero_le _, rfl, rfl, rfl, H0, (Ext.refl w).alloc _⟩
  case round =>
    clear H0
    obtain ⟨k, ad, m, d, hk, rfl, rfl, rfl, hO, hE⟩ := hrel
    obtain ⟨p0, p1⟩ := HB.out.ext hE
    by_cases hlt : k < n
    · have hz : (k : Int) < (n : Int) := by omega
      have hxw := hx.ext hE
      obtain ⟨b, o, ai, ni, ci, rfl, hc, hrow⟩ := hxw.gr hlt
      have hxn : x < ni := by rw [hrow.len]; exact hp _ (List.mem_of_getElem? (gr_get (by rw [← Hl.out]; exact hlt)))
      have hzx : (x : Int) < (ni : Int) := by omega
      have hbx := hrow.le
      have hbm := hrow.max
      obtain ⟨b1, o1, rfl, hc1⟩ := hrow.gi hxn
      have hsz := hE.size
      have hm : Hid (m ≤ k) := Lib.hid (by have h1 := hO.len; have h2 := orb_len (p.take k) x; rw [List.length_take] at h2; omega)
      clear hrow hxw
      go_wp2_with fail
      refine (l00Put_any ad m d _ _ wr hO.rdI (by have := hm.out; omega)).mono ?_
      rintro e w2 ⟨ad2, m2, d2, rfl, hO2, hE2⟩
      have hE3 := hE.trans hE2
      have hO4 : OwnI w2 w.heap.size ad2 m2 d2 (orb (p.take (k + 1)) x) := by rw [orb_snoc (by rw [← Hl.out]; exact hlt)]; exact hO2.base hsz
      clear hO2 p0 p1
      go_wp2
      go_roundg (n - (k + 1))
      case measure => go_light; omega
      case rel => go_light; exact ⟨k + 1, ad2, m2, d2, by omega, by omega, by go_num, rfl, hO4, hE3⟩
    · have hz : ¬ (k : Int) < (n : Int) := by omega
      obtain rfl : n = k := by omega
      have hO2 : OwnI wr w.heap.size ad m d (orb p x) := by rw [← List.take_of_length_le (l := p) (i := n) (by have := Hl.out; omega)]; exact hO
      clear hO
      go_wp2
      go_ret
      exact ⟨_, _, _, rfl, hO2, hE⟩

/-! ### OrbitOf -/
noncomputable def obM (z : Int) (p : List (List Int)) (x : Int) : List Int := if pb (GrpOk z p ∧ 0 ≤ x ∧ x ≤ z - 1) then orb p x.toNat else []
noncomputable def obC (z : Int) (p : List (List Int)) (x : Int) : Int := if pb (GrpOk z p) then (if pb (0 ≤ x ∧ x ≤ z - 1) then 0 else 2) else 1
theorem obM_len (z : Int) (p : List (List Int)) (x : Int) : (obM z p x).length ≤ 1048576 := by
  rw [obM]
  split
  · rename_i h
    have h1 := (pb_iff.1 h).1.2.1
    have := orb_len p x.toNat
    omega
  · simp
theorem obM_no {z : Int} {p : List (List Int)} {x : Int} (h : ¬ GrpOk z p) : obM z p x = [] := by rw [obM, pb_false (fun h' => h h'.1)]; rfl
theorem obC_no {z : Int} {p : List (List Int)} {x : Int} (h : ¬ GrpOk z p) : obC z p x = 1 := by rw [obC, pb_false h]; rfl
theorem obM_out {z : Int} {p : List (List Int)} {x : Int} (h : ¬ (0 ≤ x ∧ x ≤ z - 1)) : obM z p x = [] := by rw [obM, pb_false (fun h' => h h'.2)]; rfl
theorem obC_out {z : Int} {p : List (List Int)} {x : Int} (h0 : GrpOk z p) (h : ¬ (0 ≤ x ∧ x ≤ z - 1)) : obC z p x = 2 := by rw [obC, pb_true h0, pb_false h]; rfl
theorem obM_yes {z : Int} {p : List (List Int)} {x : Int} (h0 : GrpOk z p) (h : 0 ≤ x ∧ x ≤ z - 1) : obM z p x = orb p x.toNat := by rw [obM, pb_true ⟨h0, h⟩]; rfl
theorem obC_yes {z : Int} {p : List (List Int)} {x : Int} (h0 : GrpOk z p) (h : 0 ≤ x ∧ x ≤ z - 1) : obC z p x = 0 := by rw [obC, pb_true h0, pb_true h]; rfl
theorem GrpOk.below {z : Int} {p : List (List Int)} (h : GrpOk z p) {x : Nat} (hx : (x : Int) ≤ z - 1) : ∀ q, q ∈ p → x < q.length := fun q hq => by
  have := (h.2.2.1 q hq).1
  omega

set_option maxHeartbeats 800000 in
theorem implOrb (z : Int) (a : Option Addr) (n c : Nat) (p : List (List Int)) (x : Int) (w : World) (hx : RdR w a n c p) (_ : p.length + tot p ≤ 1048576) (lo : -9223372036854775808 ≤ z) (hi : z ≤ 9223372036854775807) (_ : -9223372036854775808 ≤ x) (_ : x ≤ 9223372036854775807) :
    Calls Try.prog 16 #[.agg #[.int .i64 z, .slice a n c], .int .i64 x] w (RetIC w (obM z p x) (obC z p x)) := by
  have Hl := Lib.hid hx.len
  have hEW : Ext w (w.alloc (.cells #[.int .i64 z, .slice a n c] 29)) := (Ext.refl _).alloc _
  have hB : Bx (w.alloc (.cells #[.int .i64 z, .slice a n c] 29)) w.heap.size z a n c := ⟨(World.cell?_alloc_at _ _ _ _ rfl).trans rfl, (World.cell?_alloc_at _ _ _ _ rfl).trans rfl⟩
  have HB := Lib.hid hB
  go_enter Try.func16, Try.ntmps16
  go_wp2_with fail
  refine (validGroup_any z a n c p _ (hx.ext hEW) lo hi).mono ?_
  rintro e w2 ⟨rfl, hE⟩
  have hEw := hEW.trans hE
  obtain ⟨p0, p1⟩ := hB.ext hE
  rcases pbc (GrpOk z p) with ⟨hb, Hb⟩ | ⟨hb, Hb⟩
  · rw [hb]
    clear hb
    have hz1 : 1 ≤ z := Hb.out.1.1
    have hz2 : z ≤ 32 := Hb.out.1.2
    rcases Classical.em (0 ≤ x ∧ x ≤ z - 1) with h | h
    · have H := Lib.hid h
      clear h
      obtain ⟨y, rfl⟩ := Int.eq_ofNat_of_zero_le H.out.1
      go_wp2_with fail
      refine (within_any _ _ _ true (decide_eq_true H.out) _).mono ?_
      rintro e w3 ⟨rfl, rfl⟩
      go_wp2_with fail
      refine (orbitOf_any z a n c p y _ (hx.ext hEw) (Hb.out.below H.out.2) (by have h1 := Hl.out; have h2 := Hb.out.2.1.2; omega)).mono ?_
      rintro e w4 ⟨a4, n4, c4, rfl, hO4, hE4⟩
      go_wp2
      go_ret2
      exact RetIC.mk_ hO4 hEw.size (obM_yes Hb.out H.out).symm (obC_yes Hb.out H.out).symm (hEw.trans hE4)
    · have H := Lib.hid h
      clear h
      go_wp2_with fail
      refine (within_any _ _ _ false (decide_eq_false H.out) _).mono ?_
      rintro e w3 ⟨rfl, rfl⟩
      go_wp2
      go_ret2
      exact RetIC.nil_ (obM_out H.out).symm (obC_out Hb.out H.out).symm hEw
  · rw [hb]
    go_wp2
    go_ret2
    exact RetIC.nil_ (obM_no Hb.out).symm (obC_no Hb.out).symm hEw

set_option maxHeartbeats 800000 in
theorem specOrb (z : Int) (a : Option Addr) (n c : Nat) (p : List (List Int)) (x : Int) (w : World) (hx : RdR w a n c p) (_ : p.length + tot p ≤ 1048576) (lo : -9223372036854775808 ≤ z) (hi : z ≤ 9223372036854775807) (_ : -9223372036854775808 ≤ x) (_ : x ≤ 9223372036854775807) :
    Calls Try.prog 14 #[.agg #[.int .i64 z, .slice a n c], .int .i64 x] w (RetIC w (obM z p x) (obC z p x)) := by
  have Hl := Lib.hid hx.len
  have hEW : Ext w (w.alloc (.cells #[.int .i64 z, .slice a n c] 29)) := (Ext.refl _).alloc _
  have hB : Bx (w.alloc (.cells #[.int .i64 z, .slice a n c] 29)) w.heap.size z a n c := ⟨(World.cell?_alloc_at _ _ _ _ rfl).trans rfl, (World.cell?_alloc_at _ _ _ _ rfl).trans rfl⟩
  have HB := Lib.hid hB
  go_enter Try.func14, Try.ntmps14
  go_wp2_with fail
  refine (l05Ok_any _ z a n c p _ hB (hx.ext hEW) lo hi).mono ?_
  rintro e w2 ⟨rfl, hE⟩
  have hEw := hEW.trans hE
  obtain ⟨p0, p1⟩ := hB.ext hE
  rcases pbc (GrpOk z p) with ⟨hb, Hb⟩ | ⟨hb, Hb⟩
  · rw [hb]
    clear hb
    have hz1 : 1 ≤ z := Hb.out.1.1
    have hz2 : z ≤ 32 := Hb.out.1.2
    rcases Classical.em (0 ≤ x ∧ x ≤ z - 1) with h | h
    · have H := Lib.hid h
      clear h
      obtain ⟨y, rfl⟩ := Int.eq_ofNat_of_zero_le H.out.1
      go_wp2_with fail
      refine (l00In_any _ _ _ true (decide_eq_true H.out) _).mono ?_
      rintro e w3 ⟨rfl, rfl⟩
      go_wp2_with fail
      refine (l05Orbit_any _ z a n c p y _ (HB.out.ext hE) (hx.ext hEw) (Hb.out.below H.out.2) (by have h1 := Hl.out; have h2 := Hb.out.2.1.2; omega)).mono ?_
      rintro e w4 ⟨a4, n4, c4, rfl, hO4, hE4⟩
      go_wp2
      go_ret2
      exact RetIC.mk_ hO4 hEw.size (obM_yes Hb.out H.out).symm (obC_yes Hb.out H.out).symm (hEw.trans hE4)
    · have H := Lib.hid h
      clear h
      go_wp2_with fail
      refine (l00In_any _ _ _ false (decide_eq_false H.out) _).mono ?_
      rintro e w3 ⟨rfl, rfl⟩
      go_wp2
      go_ret2
      exact RetIC.nil_ (obM_out H.out).symm (obC_out Hb.out H.out).symm hEw
  · rw [hb]
    go_wp2
    go_ret2
    exact RetIC.nil_ (obM_no Hb.out).symm (obC_no Hb.out).symm hEw
end Go.Proofs.Ytjlfngnmmmaefaa
