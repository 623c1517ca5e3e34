/- Superpose of both. Conditions: none. -/
import Derived.Test.YthpcogjglpnjeaaOver
import Derived.Test.YthpcogjglpnjeaaSqS
import Derived.Test.YthpcogjglpnjeaaSqI
namespace Go.Proofs.Ythpcogjglpnjeaa
open Go.RowKit

noncomputable def supC (p q : List (List Int)) : Int := if pb (SqOk p ∧ SqOk q) then (if p.length = q.length then 0 else 2) else 1
noncomputable def supM (p q : List (List Int)) : List (List Int) := if pb (SqOk p ∧ SqOk q) then (if p.length = q.length then mat p.length p.length (overF p q p.length) else []) else []

theorem supM_tot (p q : List (List Int)) : tot (supM p q) ≤ 1048576 := by
  rw [supM]
  split
  · rename_i h0
    split
    · have h3 := (pb_iff.1 h0).1
      rw [tot_rect (mat_rect _ _ _)]
      have := Nat.mul_le_mul h3.2.1 h3.2.1
      omega
    · simp [tot]
  · simp [tot]

set_option maxRecDepth 100000 in
set_option maxHeartbeats 1600000 in
theorem specSup (a : Option Addr) (n c : Nat) (p : List (List Int)) (a' : Option Addr) (m c' : Nat) (q : List (List Int)) (w : World) (hp : RdR w a n c p) (hs : p.length + tot p ≤ 1048576) (hq : RdR w a' m c' q) (hs' : q.length + tot q ≤ 1048576) :
    Calls Try.prog 39 #[.slice a n c, .slice a' m c'] w (RetRC w (supM p q) (supC p q)) := by
  have hb1 := hp.le
  have hb2 := hp.max
  have hb3 := hq.le
  have hb4 := hq.max
  have Hl := Lib.hid hp.len
  have Hm := Lib.hid hq.len
  by_cases h : SqOk p
  · have hb : pb (SqOk p) = true := pb_true h
    by_cases h' : SqOk q
    · have hb' : pb (SqOk q) = true := pb_true h'
      have Hb : Hid (pb (SqOk p ∧ SqOk q) = true) := Lib.hid (pb_true ⟨h, h'⟩)
      by_cases e : n = m
      · subst e
        have ht : Two p q n := ⟨h, h', Hl.out.symm, Hm.out.symm⟩
        have Ht := Lib.hid ht
        have hn : n ≤ 10 := by have := h.2.1; have := Hl.out; omega
        have He : Hid (p.length = q.length) := Lib.hid (by rw [← Hl.out, ← Hm.out])
        have hne : ((n : Int) != (n : Int)) = false := by simp
        clear ht h h'
        go_enter Try.func39, Try.ntmps39
        go_wp2_with fail
        refine (l06Ok_any _ _ _ p _ hp).mono ?_
        rintro e w2 ⟨rfl, hE0⟩
        rw [hb]
        go_wp2_with fail
        refine (l06Ok_any _ _ _ q _ (hq.ext hE0)).mono ?_
        rintro e w3 ⟨rfl, hE1⟩
        rw [hb']
        have hE := hE0.trans hE1
        clear hE0 hE1
        go_wp2_with fail
        refine (l07Over_any _ _ _ p _ _ q _ (hp.ext hE) (hq.ext hE) Ht.out hn).mono ?_
        rintro e w6 ⟨a4, n4, c4, rs, rfl, hO, hE4⟩
        go_wp2
        go_ret2
        exact RetRC.mk_ hO hE.size (by rw [supM, if_pos Hb.out, if_pos He.out, ← Hl.out]) (by rw [supC, if_pos Hb.out, if_pos He.out]) (hE.trans hE4)
      · have hne : ((n : Int) != (m : Int)) = true := by simp; omega
        have He : Hid (¬ p.length = q.length) := Lib.hid (by rw [← Hl.out, ← Hm.out]; exact e)
        clear e h h'
        go_enter Try.func39, Try.ntmps39
        go_wp2_with fail
        refine (l06Ok_any _ _ _ p _ hp).mono ?_
        rintro e w2 ⟨rfl, hE0⟩
        rw [hb]
        go_wp2_with fail
        refine (l06Ok_any _ _ _ q _ (hq.ext hE0)).mono ?_
        rintro e w3 ⟨rfl, hE1⟩
        rw [hb']
        go_wp2
        go_ret2
        exact RetRC.nil_ (by rw [supM, if_pos Hb.out, if_neg He.out]) (by rw [supC, if_pos Hb.out, if_neg He.out]) (hE0.trans hE1)
    · have hb' : pb (SqOk q) = false := pb_false h'
      have Hb : Hid (pb (SqOk p ∧ SqOk q) = false) := Lib.hid (pb_false (fun k => h' k.2))
      clear h h'
      go_enter Try.func39, Try.ntmps39
      go_wp2_with fail
      refine (l06Ok_any _ _ _ p _ hp).mono ?_
      rintro e w2 ⟨rfl, hE0⟩
      rw [hb]
      go_wp2_with fail
      refine (l06Ok_any _ _ _ q _ (hq.ext hE0)).mono ?_
      rintro e w3 ⟨rfl, hE1⟩
      rw [hb']
      go_wp2
      go_ret2
      exact RetRC.nil_ (by rw [supM, Hb.out]; rfl) (by rw [supC, Hb.out]; rfl) (hE0.trans hE1)
  · have hb : pb (SqOk p) = false := pb_false h
    have Hb : Hid (pb (SqOk p ∧ SqOk q) = false) := Lib.hid (pb_false (fun k => h k.1))
    clear h
    go_enter Try.func39, Try.ntmps39
    go_wp2_with fail
    refine (l06Ok_any _ _ _ p _ hp).mono ?_
    rintro e w2 ⟨rfl, hE⟩
    rw [hb]
    go_wp2
    go_ret2
    exact RetRC.nil_ (by rw [supM, Hb.out]; rfl) (by rw [supC, Hb.out]; rfl) hE

set_option maxRecDepth 100000 in
set_option maxHeartbeats 1600000 in
theorem implSup (a : Option Addr) (n c : Nat) (p : List (List Int)) (a' : Option Addr) (m c' : Nat) (q : List (List Int)) (w : World) (hp : RdR w a n c p) (hs : p.length + tot p ≤ 1048576) (hq : RdR w a' m c' q) (hs' : q.length + tot q ≤ 1048576) :
    Calls Try.prog 40 #[.slice a n c, .slice a' m c'] w (RetRC w (supM p q) (supC p q)) := by
  have hb1 := hp.le
  have hb2 := hp.max
  have hb3 := hq.le
  have hb4 := hq.max
  have Hl := Lib.hid hp.len
  have Hm := Lib.hid hq.len
  by_cases h : SqOk p
  · have hb : pb (SqOk p) = true := pb_true h
    by_cases h' : SqOk q
    · have hb' : pb (SqOk q) = true := pb_true h'
      have Hb : Hid (pb (SqOk p ∧ SqOk q) = true) := Lib.hid (pb_true ⟨h, h'⟩)
      by_cases e : n = m
      · subst e
        have ht : Two p q n := ⟨h, h', Hl.out.symm, Hm.out.symm⟩
        have Ht := Lib.hid ht
        have hn : n ≤ 10 := by have := h.2.1; have := Hl.out; omega
        have He : Hid (p.length = q.length) := Lib.hid (by rw [← Hl.out, ← Hm.out])
        have hne : ((n : Int) != (n : Int)) = false := by simp
        clear ht h h'
        go_enter Try.func40, Try.ntmps40
        go_wp2_with fail
        refine (validSquare_any _ _ _ p _ hp).mono ?_
        rintro e w2 ⟨rfl, hE0⟩
        rw [hb]
        go_wp2_with fail
        refine (validSquare_any _ _ _ q _ (hq.ext hE0)).mono ?_
        rintro e w3 ⟨rfl, hE1⟩
        rw [hb']
        have hE := hE0.trans hE1
        clear hE0 hE1
        go_wp2_with fail
        refine (superpose_any _ _ _ p _ _ q _ (hp.ext hE) (hq.ext hE) Ht.out hn).mono ?_
        rintro e w6 ⟨a4, n4, c4, rs, rfl, hO, hE4⟩
        go_wp2
        go_ret2
        exact RetRC.mk_ hO hE.size (by rw [supM, if_pos Hb.out, if_pos He.out, ← Hl.out]) (by rw [supC, if_pos Hb.out, if_pos He.out]) (hE.trans hE4)
      · have hne : ((n : Int) != (m : Int)) = true := by simp; omega
        have He : Hid (¬ p.length = q.length) := Lib.hid (by rw [← Hl.out, ← Hm.out]; exact e)
        clear e h h'
        go_enter Try.func40, Try.ntmps40
        go_wp2_with fail
        refine (validSquare_any _ _ _ p _ hp).mono ?_
        rintro e w2 ⟨rfl, hE0⟩
        rw [hb]
        go_wp2_with fail
        refine (validSquare_any _ _ _ q _ (hq.ext hE0)).mono ?_
        rintro e w3 ⟨rfl, hE1⟩
        rw [hb']
        go_wp2
        go_ret2
        exact RetRC.nil_ (by rw [supM, if_pos Hb.out, if_neg He.out]) (by rw [supC, if_pos Hb.out, if_neg He.out]) (hE0.trans hE1)
    · have hb' : pb (SqOk q) = false := pb_false h'
      have Hb : Hid (pb (SqOk p ∧ SqOk q) = false) := Lib.hid (pb_false (fun k => h' k.2))
      clear h h'
      go_enter Try.func40, Try.ntmps40
      go_wp2_with fail
      refine (validSquare_any _ _ _ p _ hp).mono ?_
      rintro e w2 ⟨rfl, hE0⟩
      rw [hb]
      go_wp2_with fail
      refine (validSquare_any _ _ _ q _ (hq.ext hE0)).mono ?_
      rintro e w3 ⟨rfl, hE1⟩
      rw [hb']
      go_wp2
      go_ret2
      exact RetRC.nil_ (by rw [supM, Hb.out]; rfl) (by rw [supC, Hb.out]; rfl) (hE0.trans hE1)
  · have hb : pb (SqOk p) = false := pb_false h
    have Hb : Hid (pb (SqOk p ∧ SqOk q) = false) := Lib.hid (pb_false (fun k => h k.1))
    clear h
    go_enter Try.func40, Try.ntmps40
    go_wp2_with fail
    refine (validSquare_any _ _ _ p _ hp).mono ?_
    rintro e w2 ⟨rfl, hE⟩
    rw [hb]
    go_wp2
    go_ret2
    exact RetRC.nil_ (by rw [supM, Hb.out]; rfl) (by rw [supC, Hb.out]; rfl) hE

end Go.Proofs.Ythpcogjglpnjeaa
