/- IsTransversal of both. Conditions: none. -/
import Derived.Test.YthpcogjglpnjeaaSqV
namespace Go.Proofs.Ythpcogjglpnjeaa
open Go.RowKit

/-- The symbols that columns meet in the first rows. -/
def along (p : List (List Int)) (cs : List Int) (n : Nat) : List Int := (List.range n).map fun x => at2 p x (gi cs x).toNat
theorem along_length (p : List (List Int)) (cs : List Int) (n : Nat) : (along p cs n).length = n := by simp [along]
theorem along_succ (p : List (List Int)) (cs : List Int) (n : Nat) : along p cs (n + 1) = along p cs n ++ [at2 p n (gi cs n).toNat] := by rw [along, List.range_succ, List.map_append]; rfl

def TrvIn (p : List (List Int)) (cs : List Int) : Prop := cs.length = p.length ∧ PermOk cs ∧ PermOk (along p cs p.length)
def TrvOk (p : List (List Int)) (cs : List Int) : Prop := SqOk p ∧ TrvIn p cs

set_option maxHeartbeats 400000 in
theorem l06Perm_any (a : Option Addr) (n c : Nat) (xs : List Int) (m : Int) (w : World) (hx : RdI w a n c xs) :
    Calls Try.prog 74 #[.slice a n c, .int .i64 m] w fun e w' => e = .returned (.bool (pb ((xs.length : Int) = m ∧ PermOk xs))) ∧ Ext w w' := by
  have hb1 := hx.le
  have hb2 := hx.max
  have Hx := Lib.hid hx.len
  by_cases h : (n : Int) = m
  · have h' : ((n : Int) == m) = true := by simp [h]
    have H := Lib.hid h
    clear h
    go_enter Try.func74, Try.ntmps74
    go_wp2_with fail
    refine (l04Ok_any _ _ _ xs _ hx).mono ?_
    rintro e w2 ⟨rfl, hQ⟩
    go_wp2
    go_ret
    exact ⟨ret_bool (pb_congr ⟨fun hp => ⟨by rw [← Hx.out]; exact H.out, hp⟩, fun hp => hp.2⟩), hQ.ext⟩
  · have h' : ((n : Int) == m) = false := by simp [h]
    have H := Lib.hid h
    clear h
    go_enter Try.func74, Try.ntmps74
    go_wp2
    go_ret
    exact ⟨ret_npb (fun hp => H.out (by rw [Hx.out]; exact hp.1)), Ext.refl _⟩

theorem perm_at {cs : List Int} {n k : Nat} (h : PermOk cs) (hl : cs.length = n) (hk : k < n) : ∃ y : Nat, gi cs k = y ∧ y < n := by
  have := h.2.2 _ (gi_mem (xs := cs) (k := k) (by omega))
  exact ⟨(gi cs k).toNat, by omega, by omega⟩

set_option maxRecDepth 100000 in
set_option maxHeartbeats 1600000 in
theorem l07Transversal_any (a : Option Addr) (n c : Nat) (p : List (List Int)) (a' : Option Addr) (m c' : Nat) (cs : List Int) (w : World) (hx : RdR w a n c p) (hc : RdI w a' m c' cs) (hr : Rect p n n) (hn : n ≤ 1000) :
    Calls Try.prog 54 #[.slice a n c, .slice a' m c'] w fun e w' => e = .returned (.bool (pb (TrvIn p cs))) ∧ Ext w w' := by
  have hb1 := hx.le
  have hb2 := hx.max
  have Hx := Lib.hid hx.len
  have Hc := Lib.hid hc.len
  have Hr := Lib.hid hr
  clear hr
  by_cases h : (cs.length : Int) = n ∧ PermOk cs
  · have H := Lib.hid h
    clear h
    have hmn : m = n := by have := Hc.out; have := H.out.1; omega
    subst hmn
    go_enter Try.func54, Try.ntmps54
    go_wp2_with fail
    refine (l06Perm_any _ _ _ cs _ _ hc).mono ?_
    rintro e w2 ⟨rfl, hE⟩
    rw [pb_true H.out]
    go_wp2
    have H0 := Own.empty 2 (Value.int .i64) w2
    go_loopg [5, 6] m (fun g s i wr => ∃ (k : Nat) (ad : Option Addr) (d : Nat), k ≤ m ∧ g = m - k ∧ i = .int .i64 k ∧ s = .slice ad k d ∧ OwnI wr w2.heap.size ad k d (along p cs k) ∧ Ext w2 wr)
    case atStart => exact ⟨0, _, 0, Nat.zero_le _, rfl, rfl, rfl, H0, (Ext.refl _).alloc _⟩
    case round =>
      obtain ⟨k, ad, d, hk, rfl, rfl, rfl, hO, hEk⟩ := hrel
      clear H0
      by_cases hlt : k < m
      · have hz : (k : Int) < (m : Int) := by omega
        obtain ⟨y, hy, hym⟩ := perm_at H.out.2 Hc.out.symm hlt
        have hyz : (y : Int) < (m : Int) := by omega
        have hEw := hE.trans hEk
        obtain ⟨b, o, ai, ci, rfl, hc0, hrow⟩ := hx.row Hr.out hlt
        obtain ⟨b2, o2, rfl, hc2⟩ := hc.gi hlt
        obtain ⟨b1, o1, rfl, hc1⟩ := hrow.cell2 hym
        rw [hy] at hc2
        have Hy := Lib.hid hy
        clear hy hrow
        have d0 := hEw.cell hc0
        have d1 := hEw.cell hc1
        have d2 := hEw.cell hc2
        have hsz := hEk.size
        have hO1 := Own.ext hO (((Ext.refl wr).alloc (.cells #[.int .i64 (at2 p k y)] 2)).drew)
        have hsz1 : w2.heap.size ≤ ((wr.alloc (.cells #[.int .i64 (at2 p k y)] 2)).drew).heap.size := by simp; omega
        have hv1 : ((wr.alloc (.cells #[.int .i64 (at2 p k y)] 2)).drew).cell? ⟨wr.heap.size, 0, none⟩ = some (.int .i64 (at2 p k y)) := by simp
        have hn1 : k + 1 ≤ 1099511627776 := by omega
        go_wp2_with fail
        go_region_held3 (fun w' => w'.cell? ⟨b, o + k, none⟩ = some (.slice (some ⟨b1, o1, none⟩) m ci) ∧ w'.cell? ⟨b2, o2 + k, none⟩ = some (.int .i64 (y : Int)) ∧ w'.cell? ⟨b1, o1 + y, none⟩ = some (.int .i64 (at2 p k y)))
          (first | exact ⟨d0, d2, d1⟩ | go_keep | (have hE3 : Ext w w3 := Ext.only ((hEw.alloc _).drew) honly (fun b hb => Nat.le_trans hE.size (hO.lt hb).1); exact ⟨hE3.cell hc0, hE3.cell hc2, hE3.cell hc1⟩))
          ((refine step_app_I (by rfl) _ _ (by rfl) hO1 hsz1 hv1 hn1 (by rfl) (by rfl) ?_; intro ad' d' w3 hrow honly hmv))
        have hE3 : Ext w2 w3 := Ext.only ((hEk.alloc _).drew) honly (fun b hb => (hO.lt hb).1)
        have ey : at2 p k y = at2 p k (gi cs k).toNat := by rw [Hy.out]; rfl
        rw [ey, ← along_succ] at hrow
        clear hO hEk hO1 hsz1 hv1 hn1 honly hmv d0 d1 d2 hc0 hc1 hc2 hsz hEw ey
        go_wp2
        go_roundg (m - (k + 1))
        case measure => go_light; omega
        case rel => go_light; exact ⟨k + 1, ad', d', by omega, rfl, by go_num, rfl, hrow, hE3⟩
      · have hz : ¬ (k : Int) < (m : Int) := by omega
        obtain rfl : m = k := by omega
        go_wp2_with fail
        refine (l04Ok_any _ _ _ _ _ hO.rdI).mono ?_
        rintro e w3 ⟨rfl, hQ⟩
        go_wp2
        go_ret
        exact ⟨ret_bool (pb_congr ⟨fun hp => ⟨by rw [← Hc.out, Hx.out], H.out.2, by rw [← Hx.out]; exact hp⟩, fun hp => by rw [Hx.out]; exact hp.2.2⟩), (hE.trans hEk).trans hQ.ext⟩
  · have H := Lib.hid h
    clear h
    go_enter Try.func54, Try.ntmps54
    go_wp2_with fail
    refine (l06Perm_any _ _ _ cs _ _ hc).mono ?_
    rintro e w2 ⟨rfl, hE⟩
    rw [pb_false H.out]
    go_wp2
    go_ret
    exact ⟨ret_npb (fun hp => H.out ⟨by rw [hp.1, Hx.out], hp.2.1⟩), hE⟩

set_option maxHeartbeats 1600000 in
theorem isTransversal_any (a : Option Addr) (n c : Nat) (p : List (List Int)) (a' : Option Addr) (m c' : Nat) (cs : List Int) (w : World) (hx : RdR w a n c p) (hc : RdI w a' m c' cs) (hr : Rect p n n) (hn : n ≤ 1000) :
    Calls Try.prog 55 #[.slice a n c, .slice a' m c'] w fun e w' => e = .returned (.bool (pb (TrvIn p cs))) ∧ Ext w w' := by
  have hb1 := hx.le
  have hb2 := hx.max
  have hb3 := hc.le
  have hb4 := hc.max
  have Hx := Lib.hid hx.len
  have Hc := Lib.hid hc.len
  have Hr := Lib.hid hr
  clear hr
  by_cases hmn : m = n
  · subst hmn
    have hne : ((m : Int) != (m : Int)) = false := by simp
    by_cases hp : PermOk cs
    · have Hp := Lib.hid hp
      clear hp
      go_enter Try.func55, Try.ntmps55
      go_wp2_with fail
      refine (validPerm_any _ _ _ cs _ hc (by omega)).mono ?_
      rintro e w2 ⟨rfl, hE⟩
      rw [pb_true Hp.out]
      go_wp2
      go_loopg [5, 20] m (fun g s i wr => ∃ (k : Nat) (ad : Option Addr) (d : Nat), k ≤ m ∧ g = m - k ∧ i = .int .i64 k ∧ s = .slice ad k d ∧ OwnI wr w2.heap.size ad k d (along p cs k) ∧ Ext w2 wr)
      case atStart => exact ⟨0, none, 0, Nat.zero_le _, rfl, rfl, rfl, Own.nil_ _ _ _ _, Ext.refl _⟩
      case round =>
        obtain ⟨k, ad, d, hk, rfl, rfl, rfl, hO, hEk⟩ := hrel
        by_cases hlt : k < m
        · have hz : (k : Int) < (m : Int) := by omega
          obtain ⟨y, hy, hym⟩ := perm_at Hp.out Hc.out.symm hlt
          have hyz : (y : Int) < (m : Int) := by omega
          have hEw := hE.trans hEk
          obtain ⟨b, o, ai, ci, rfl, hc0, hrow⟩ := (hx.ext hEw).row Hr.out hlt
          obtain ⟨b2, o2, rfl, hc2⟩ := (hc.ext hEw).gi hlt
          obtain ⟨b1, o1, rfl, hc1⟩ := hrow.cell2 hym
          rw [hy] at hc2
          have Hy := Lib.hid hy
          have hsz := hEk.size
          clear hy hrow
          go_wp2_with (at_builtin; refine app_I rfl _ _ rfl hO hsz rfl (by omega) rfl rfl ?_; intro ad' d' w3 hrow honly hmv)
          have hE3 := hEk.app hO honly (Nat.le_refl _)
          have ey : at2 p k y = at2 p k (gi cs k).toNat := by rw [Hy.out]; rfl
          rw [ey, ← along_succ] at hrow
          clear hO hEk honly hmv hsz ey hEw
          go_wp2
          go_roundg (m - (k + 1))
          case measure => go_light; omega
          case rel => go_light; exact ⟨k + 1, ad', d', by omega, rfl, by go_num, rfl, hrow, hE3⟩
        · have hz : ¬ (k : Int) < (m : Int) := by omega
          obtain rfl : m = k := by omega
          go_wp2_with fail
          refine (validPerm_any _ _ _ _ _ hO.rdI (by omega)).mono ?_
          rintro e w3 ⟨rfl, hE2⟩
          go_wp2
          go_ret
          exact ⟨ret_bool (pb_congr ⟨fun hp => ⟨by rw [← Hc.out, Hx.out], Hp.out, by rw [← Hx.out]; exact hp⟩, fun hp => by rw [Hx.out]; exact hp.2.2⟩), (hE.trans hEk).trans hE2⟩
    · have Hp := Lib.hid hp
      clear hp
      go_enter Try.func55, Try.ntmps55
      go_wp2_with fail
      refine (validPerm_any _ _ _ cs _ hc (by omega)).mono ?_
      rintro e w2 ⟨rfl, hE⟩
      rw [pb_false Hp.out]
      go_wp2
      go_ret
      exact ⟨ret_npb (fun hp => Hp.out hp.2.1), hE⟩
  · have hne : ((m : Int) != (n : Int)) = true := by simp; omega
    have Hm := Lib.hid hmn
    clear hmn
    go_enter Try.func55, Try.ntmps55
    go_wp2
    go_ret
    exact ⟨ret_npb (fun hp => Hm.out (by rw [Hc.out, Hx.out, hp.1])), Ext.refl _⟩

set_option maxHeartbeats 1600000 in
theorem specTrv (a : Option Addr) (n c : Nat) (p : List (List Int)) (a' : Option Addr) (m c' : Nat) (cs : List Int) (w : World) (hx : RdR w a n c p) (_ : p.length + tot p ≤ 1048576) (hc : RdI w a' m c' cs) (_ : m ≤ 1048576) :
    Calls Try.prog 22 #[.slice a n c, .slice a' m c'] w fun e w' => e = .returned (.bool (pb (TrvOk p cs))) ∧ Ext w w' := by
  have Hx := Lib.hid hx.len
  by_cases hv : SqOk p
  · obtain ⟨h1, h2, h3⟩ := hv.dims Hx.out
    have Hv := Lib.hid hv
    have HR := Lib.hid h3
    clear hv h3
    go_enter Try.func22, Try.ntmps22
    go_wp2_with fail
    refine (l06Ok_any _ _ _ p _ hx).mono ?_
    rintro e w2 ⟨rfl, hE⟩
    rw [pb_true Hv.out]
    go_wp2_with fail
    refine (l07Transversal_any _ _ _ p _ _ _ cs _ (hx.ext hE) (hc.ext hE) HR.out (by omega)).mono ?_
    rintro e w3 ⟨rfl, hE2⟩
    go_wp2
    go_ret
    exact ⟨ret_bool (pb_congr ⟨fun h => ⟨Hv.out, h⟩, fun h => h.2⟩), hE.trans hE2⟩
  · have Hv := Lib.hid hv
    clear hv
    go_enter Try.func22, Try.ntmps22
    go_wp2_with fail
    refine (l06Ok_any _ _ _ p _ hx).mono ?_
    rintro e w2 ⟨rfl, hE⟩
    rw [pb_false Hv.out]
    go_wp2
    go_ret
    exact ⟨ret_npb (fun h => Hv.out h.1), hE⟩

set_option maxHeartbeats 1600000 in
theorem implTrv (a : Option Addr) (n c : Nat) (p : List (List Int)) (a' : Option Addr) (m c' : Nat) (cs : List Int) (w : World) (hx : RdR w a n c p) (_ : p.length + tot p ≤ 1048576) (hc : RdI w a' m c' cs) (_ : m ≤ 1048576) :
    Calls Try.prog 24 #[.slice a n c, .slice a' m c'] w fun e w' => e = .returned (.bool (pb (TrvOk p cs))) ∧ Ext w w' := by
  have Hx := Lib.hid hx.len
  by_cases hv : SqOk p
  · obtain ⟨h1, h2, h3⟩ := hv.dims Hx.out
    have Hv := Lib.hid hv
    have HR := Lib.hid h3
    clear hv h3
    go_enter Try.func24, Try.ntmps24
    go_wp2_with fail
    refine (validSquare_any _ _ _ p _ hx).mono ?_
    rintro e w2 ⟨rfl, hE⟩
    rw [pb_true Hv.out]
    go_wp2_with fail
    refine (isTransversal_any _ _ _ p _ _ _ cs _ (hx.ext hE) (hc.ext hE) HR.out (by omega)).mono ?_
    rintro e w3 ⟨rfl, hE2⟩
    go_wp2
    go_ret
    exact ⟨ret_bool (pb_congr ⟨fun h => ⟨Hv.out, h⟩, fun h => h.2⟩), hE.trans hE2⟩
  · have Hv := Lib.hid hv
    clear hv
    go_enter Try.func24, Try.ntmps24
    go_wp2_with fail
    refine (validSquare_any _ _ _ p _ hx).mono ?_
    rintro e w2 ⟨rfl, hE⟩
    rw [pb_false Hv.out]
    go_wp2
    go_ret
    exact ⟨ret_npb (fun h => Hv.out h.1), hE⟩

end Go.Proofs.Ythpcogjglpnjeaa
