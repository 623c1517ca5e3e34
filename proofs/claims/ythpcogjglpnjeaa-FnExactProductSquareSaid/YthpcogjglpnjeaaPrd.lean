/- ProductSquare of both. Conditions: none. -/
import Derived.Test.YthpcogjglpnjeaaProd
import Derived.Test.YthpcogjglpnjeaaProdI
import Derived.Test.YthpcogjglpnjeaaSqS
import Derived.Test.YthpcogjglpnjeaaSqI
namespace Go.Proofs.Ythpcogjglpnjeaa
open Go.RowKit

noncomputable def prdC (p q : List (List Int)) : Int := if pb (SqOk p ∧ SqOk q) then (if p.length * q.length ≤ 10 then 0 else 2) else 1
noncomputable def prdM (p q : List (List Int)) : List (List Int) := if pb (SqOk p ∧ SqOk q) then (if p.length * q.length ≤ 10 then mat (p.length * q.length) (p.length * q.length) (prodF p q q.length) else []) else []

theorem prdM_tot (p q : List (List Int)) : tot (prdM p q) ≤ 1048576 := by
  rw [prdM]
  split
  · rename_i h0
    split
    · rename_i h3
      rw [tot_rect (mat_rect _ _ _)]
      have := Nat.mul_le_mul h3 h3
      omega
    · simp [tot]
  · simp [tot]

set_option maxRecDepth 100000 in
set_option maxHeartbeats 1600000 in
theorem specPrd (a : Option Addr) (n c : Nat) (p : List (List Int)) (a' : Option Addr) (m c' : Nat) (q : List (List Int)) (w : World) (hp : RdR w a n c p) (hs : p.length + tot p ≤ 1048576) (hq : RdR w a' m c' q) (hs' : q.length + tot q ≤ 1048576) :
    Calls Try.prog 42 #[.slice a n c, .slice a' m c'] w (RetRC w (prdM p q) (prdC p q)) := by
  have hb1 := hp.le
  have hb2 := hp.max
  have hb3 := hq.le
  have hb4 := hq.max
  have Hl := Lib.hid hp.len
  have Hm := Lib.hid hq.len
  by_cases h : SqOk p
  · have hb : pb (SqOk p) = true := pb_true h
    by_cases h' : SqOk q
    · have hb' : pb (SqOk q) = true := pb_true h'
      have Hb : Hid (pb (SqOk p ∧ SqOk q) = true) := Lib.hid (pb_true ⟨h, h'⟩)
      have hn : n ≤ 10 := by have := h.2.1; have := Hl.out; omega
      have hm : m ≤ 10 := by have := h'.2.1; have := Hm.out; omega
      have hmul := Nat.mul_le_mul hn hm
      have e1 : 0 ≤ (n : Int) * (m : Int) := by exact_mod_cast Nat.zero_le _
      have e0 : (n : Int) * (m : Int) ≤ 100 := by exact_mod_cast hmul
      by_cases e : n * m ≤ 10
      · have ht : TwoP p q n m (n * m) := ⟨h, h', Hl.out.symm, Hm.out.symm, rfl, e⟩
        have Ht := Lib.hid ht
        have He : Hid (p.length * q.length ≤ 10) := Lib.hid (by rw [← Hl.out, ← Hm.out]; exact e)
        have hne : ¬ (10 : Int) < (n : Int) * (m : Int) := by
          have h9 : (n : Int) * (m : Int) ≤ 10 := by exact_mod_cast e
          omega
        clear e hmul
        clear ht h h'
        go_enter Try.func42, Try.ntmps42
        go_wp2_with fail
        refine (l06Ok_any _ _ _ p _ hp).mono ?_
        rintro e w2 ⟨rfl, hE0⟩
        rw [hb]
        go_wp2_with fail
        refine (l06Ok_any _ _ _ q _ (hq.ext hE0)).mono ?_
        rintro e w3 ⟨rfl, hE1⟩
        rw [hb']
        have hE := hE0.trans hE1
        clear hE0 hE1
        go_wp2_with fail
        refine (l06Product_any _ _ _ p _ _ _ q _ _ (hp.ext hE) (hq.ext hE) Ht.out).mono ?_
        rintro e w6 ⟨a4, n4, c4, rs, rfl, hO, hE4⟩
        go_wp2
        go_ret2
        exact RetRC.mk_ hO hE.size (by rw [prdM, if_pos Hb.out, if_pos He.out, ← Hl.out, ← Hm.out]) (by rw [prdC, if_pos Hb.out, if_pos He.out]) (hE.trans hE4)
      · have He : Hid (¬ p.length * q.length ≤ 10) := Lib.hid (by rw [← Hl.out, ← Hm.out]; exact e)
        have hne : (10 : Int) < (n : Int) * (m : Int) := by
          have h8 : 11 ≤ n * m := by omega
          have h9 : (11 : Int) ≤ (n : Int) * (m : Int) := by exact_mod_cast h8
          omega
        clear e hmul h h'
        go_enter Try.func42, Try.ntmps42
        go_wp2_with fail
        refine (l06Ok_any _ _ _ p _ hp).mono ?_
        rintro e w2 ⟨rfl, hE0⟩
        rw [hb]
        go_wp2_with fail
        refine (l06Ok_any _ _ _ q _ (hq.ext hE0)).mono ?_
        rintro e w3 ⟨rfl, hE1⟩
        rw [hb']
        go_wp2
        go_ret2
        exact RetRC.nil_ (by rw [prdM, if_pos Hb.out, if_neg He.out]) (by rw [prdC, if_pos Hb.out, if_neg He.out]) (hE0.trans hE1)
    · have hb' : pb (SqOk q) = false := pb_false h'
      have Hb : Hid (pb (SqOk p ∧ SqOk q) = false) := Lib.hid (pb_false (fun k => h' k.2))
      clear h h'
      go_enter Try.func42, Try.ntmps42
      go_wp2_with fail
      refine (l06Ok_any _ _ _ p _ hp).mono ?_
      rintro e w2 ⟨rfl, hE0⟩
      rw [hb]
      go_wp2_with fail
      refine (l06Ok_any _ _ _ q _ (hq.ext hE0)).mono ?_
      rintro e w3 ⟨rfl, hE1⟩
      rw [hb']
      go_wp2
      go_ret2
      exact RetRC.nil_ (by rw [prdM, Hb.out]; rfl) (by rw [prdC, Hb.out]; rfl) (hE0.trans hE1)
  · have hb : pb (SqOk p) = false := pb_false h
    have Hb : Hid (pb (SqOk p ∧ SqOk q) = false) := Lib.hid (pb_false (fun k => h k.1))
    clear h
    go_enter Try.func42, Try.ntmps42
    go_wp2_with fail
    refine (l06Ok_any _ _ _ p _ hp).mono ?_
    rintro e w2 ⟨rfl, hE⟩
    rw [hb]
    go_wp2
    go_ret2
    exact RetRC.nil_ (by rw [prdM, Hb.out]; rfl) (by rw [prdC, Hb.out]; rfl) hE

set_option maxRecDepth 100000 in
set_option maxHeartbeats 1600000 in
theorem implPrd (a : Option Addr) (n c : Nat) (p : List (List Int)) (a' : Option Addr) (m c' : Nat) (q : List (List Int)) (w : World) (hp : RdR w a n c p) (hs : p.length + tot p ≤ 1048576) (hq : RdR w a' m c' q) (hs' : q.length + tot q ≤ 1048576) :
    Calls Try.prog 43 #[.slice a n c, .slice a' m c'] w (RetRC w (prdM p q) (prdC p q)) := by
  have hb1 := hp.le
  have hb2 := hp.max
  have hb3 := hq.le
  have hb4 := hq.max
  have Hl := Lib.hid hp.len
  have Hm := Lib.hid hq.len
  by_cases h : SqOk p
  · have hb : pb (SqOk p) = true := pb_true h
    by_cases h' : SqOk q
    · have hb' : pb (SqOk q) = true := pb_true h'
      have Hb : Hid (pb (SqOk p ∧ SqOk q) = true) := Lib.hid (pb_true ⟨h, h'⟩)
      have hn : n ≤ 10 := by have := h.2.1; have := Hl.out; omega
      have hm : m ≤ 10 := by have := h'.2.1; have := Hm.out; omega
      have hmul := Nat.mul_le_mul hn hm
      have e1 : 0 ≤ (n : Int) * (m : Int) := by exact_mod_cast Nat.zero_le _
      have e0 : (n : Int) * (m : Int) ≤ 100 := by exact_mod_cast hmul
      by_cases e : n * m ≤ 10
      · have ht : TwoP p q n m (n * m) := ⟨h, h', Hl.out.symm, Hm.out.symm, rfl, e⟩
        have Ht := Lib.hid ht
        have He : Hid (p.length * q.length ≤ 10) := Lib.hid (by rw [← Hl.out, ← Hm.out]; exact e)
        have hne : ¬ (10 : Int) < (n : Int) * (m : Int) := by
          have h9 : (n : Int) * (m : Int) ≤ 10 := by exact_mod_cast e
          omega
        clear e hmul
        clear ht h h'
        go_enter Try.func43, Try.ntmps43
        go_wp2_with fail
        refine (validSquare_any _ _ _ p _ hp).mono ?_
        rintro e w2 ⟨rfl, hE0⟩
        rw [hb]
        go_wp2_with fail
        refine (validSquare_any _ _ _ q _ (hq.ext hE0)).mono ?_
        rintro e w3 ⟨rfl, hE1⟩
        rw [hb']
        have hE := hE0.trans hE1
        clear hE0 hE1
        go_wp2_with fail
        refine (sizeR_any _ _ _ _).mono ?_
        rintro e w4 ⟨rfl, rfl⟩
        go_wp2_with fail
        refine (sizeR_any _ _ _ _).mono ?_
        rintro e w4 ⟨rfl, rfl⟩
        go_wp2_with fail
        refine (product_any _ _ _ p _ _ _ q _ _ (hp.ext hE) (hq.ext hE) Ht.out).mono ?_
        rintro e w6 ⟨a4, n4, c4, rs, rfl, hO, hE4⟩
        go_wp2
        go_ret2
        exact RetRC.mk_ hO hE.size (by rw [prdM, if_pos Hb.out, if_pos He.out, ← Hl.out, ← Hm.out]) (by rw [prdC, if_pos Hb.out, if_pos He.out]) (hE.trans hE4)
      · have He : Hid (¬ p.length * q.length ≤ 10) := Lib.hid (by rw [← Hl.out, ← Hm.out]; exact e)
        have hne : (10 : Int) < (n : Int) * (m : Int) := by
          have h8 : 11 ≤ n * m := by omega
          have h9 : (11 : Int) ≤ (n : Int) * (m : Int) := by exact_mod_cast h8
          omega
        clear e hmul h h'
        go_enter Try.func43, Try.ntmps43
        go_wp2_with fail
        refine (validSquare_any _ _ _ p _ hp).mono ?_
        rintro e w2 ⟨rfl, hE0⟩
        rw [hb]
        go_wp2_with fail
        refine (validSquare_any _ _ _ q _ (hq.ext hE0)).mono ?_
        rintro e w3 ⟨rfl, hE1⟩
        rw [hb']
        go_wp2_with fail
        refine (sizeR_any _ _ _ _).mono ?_
        rintro e w4 ⟨rfl, rfl⟩
        go_wp2_with fail
        refine (sizeR_any _ _ _ _).mono ?_
        rintro e w4 ⟨rfl, rfl⟩
        go_wp2
        go_ret2
        exact RetRC.nil_ (by rw [prdM, if_pos Hb.out, if_neg He.out]) (by rw [prdC, if_pos Hb.out, if_neg He.out]) (hE0.trans hE1)
    · have hb' : pb (SqOk q) = false := pb_false h'
      have Hb : Hid (pb (SqOk p ∧ SqOk q) = false) := Lib.hid (pb_false (fun k => h' k.2))
      clear h h'
      go_enter Try.func43, Try.ntmps43
      go_wp2_with fail
      refine (validSquare_any _ _ _ p _ hp).mono ?_
      rintro e w2 ⟨rfl, hE0⟩
      rw [hb]
      go_wp2_with fail
      refine (validSquare_any _ _ _ q _ (hq.ext hE0)).mono ?_
      rintro e w3 ⟨rfl, hE1⟩
      rw [hb']
      go_wp2
      go_ret2
      exact RetRC.nil_ (by rw [prdM, Hb.out]; rfl) (by rw [prdC, Hb.out]; rfl) (hE0.trans hE1)
  · have hb : pb (SqOk p) = false := pb_false h
    have Hb : Hid (pb (SqOk p ∧ SqOk q) = false) := Lib.hid (pb_false (fun k => h k.1))
    clear h
    go_enter Try.func43, Try.ntmps43
    go_wp2_with fail
    refine (validSquare_any _ _ _ p _ hp).mono ?_
    rintro e w2 ⟨rfl, hE⟩
    rw [hb]
    go_wp2
    go_ret2
    exact RetRC.nil_ (by rw [prdM, Hb.out]; rfl) (by rw [prdC, Hb.out]; rfl) hE

end Go.Proofs.Ythpcogjglpnjeaa
