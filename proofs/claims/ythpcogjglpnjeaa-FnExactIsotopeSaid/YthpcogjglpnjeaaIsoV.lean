/- Isotope of both. Conditions: none. -/
import Derived.Test.YthpcogjglpnjeaaIso
import Derived.Test.YthpcogjglpnjeaaTrv
namespace Go.Proofs.Ythpcogjglpnjeaa
open Go.RowKit

/-- A permutation of as many points. -/
def PermN (p : List (List Int)) (r : List Int) : Prop := (r.length : Int) = (p.length : Int) ∧ PermOk r
noncomputable def isoC (p : List (List Int)) (r q s : List Int) : Int := if pb (SqOk p) then (if pb (PermN p r ∧ PermN p q ∧ PermN p s) then 0 else 2) else 1
noncomputable def isoM (p : List (List Int)) (r q s : List Int) : List (List Int) := if pb (SqOk p) then (if pb (PermN p r ∧ PermN p q ∧ PermN p s) then isoTo p r q s p.length p.length else []) else []

theorem PermN.facts {p : List (List Int)} {r : List Int} {n m : Nat} (h : PermN p r) (hn : n = p.length) (hm : m = r.length) : m = n ∧ Below_ r n := by
  have h1 := h.1
  have e : m = n := by omega
  refine ⟨e, ?_⟩
  have := h.2.2.below
  rwa [← hm, e] at this

theorem isoM_tot (p : List (List Int)) (r q s : List Int) : tot (isoM p r q s) ≤ 1048576 := by
  rw [isoM]
  split
  · rename_i h0
    split
    · rename_i h1
      have h2 := pb_iff.1 h1
      have h3 := pb_iff.1 h0
      obtain ⟨e, hb⟩ := h2.1.facts rfl rfl
      rw [tot_rect (isoTo_rect hb e _ (Nat.le_refl _))]
      have := Nat.mul_le_mul h3.2.1 h3.2.1
      omega
    · simp [tot]
  · simp [tot]

/-- Three lists in a slice that has just been laid. -/
theorem rd3 {w : World} {b : Nat} {a1 a2 a3 : Option Addr} {n1 n2 n3 c1 c2 c3 : Nat} {x1 x2 x3 : List Int} (h1 : RdI w a1 n1 c1 x1) (h2 : RdI w a2 n2 c2 x2) (h3 : RdI w a3 n3 c3 x3)
    (k1 : w.cell? ⟨b, 0, none⟩ = some (.slice a1 n1 c1)) (k2 : w.cell? ⟨b, 1, none⟩ = some (.slice a2 n2 c2)) (k3 : w.cell? ⟨b, 2, none⟩ = some (.slice a3 n3 c3)) :
    RdR w (some ⟨b, 0, none⟩) 3 3 [x1, x2, x3] := by
  refine ⟨rfl, Nat.le_refl _, by omega, (by intro h; cases h), fun k x hx => ?_⟩
  match k, hx with
  | 0, hx => cases hx; exact ⟨b, 0, _, rfl, k1, _, _, _, rfl, h1⟩
  | 1, hx => cases hx; exact ⟨b, 0, _, rfl, k2, _, _, _, rfl, h2⟩
  | 2, hx => cases hx; exact ⟨b, 0, _, rfl, k3, _, _, _, rfl, h3⟩

theorem allPerm3 {p : List (List Int)} {r q s : List Int} {n : Nat} (hn : n = p.length) : AllPerm (n : Int) [r, q, s] ↔ (PermN p r ∧ PermN p q ∧ PermN p s) := by
  subst hn
  unfold AllPerm PermN
  simp

set_option maxRecDepth 100000 in
set_option maxHeartbeats 1600000 in
theorem specIso (a : Option Addr) (n c : Nat) (p : List (List Int)) (a1 : Option Addr) (n1 c1 : Nat) (r : List Int) (a2 : Option Addr) (n2 c2 : Nat) (q : List Int) (a3 : Option Addr) (n3 c3 : Nat) (s : List Int) (w : World)
    (hp : RdR w a n c p) (ht : p.length + tot p ≤ 1048576) (hr : RdI w a1 n1 c1 r) (hr1 : n1 ≤ 1048576) (hq : RdI w a2 n2 c2 q) (hq1 : n2 ≤ 1048576) (hs : RdI w a3 n3 c3 s) (hs1 : n3 ≤ 1048576) :
    Calls Try.prog 44 #[.slice a n c, .slice a1 n1 c1, .slice a2 n2 c2, .slice a3 n3 c3] w (RetRC w (isoM p r q s) (isoC p r q s)) := by
  have hb1 := hp.le
  have hb2 := hp.max
  have Hl := Lib.hid hp.len
  by_cases h : SqOk p
  · have hb : pb (SqOk p) = true := pb_true h
    have Hb := Lib.hid hb
    have H := Lib.hid h
    clear h
    by_cases k1 : PermN p r
    · have e1 : pb ((r.length : Int) = (n : Int) ∧ PermOk r) = true := pb_true (by rw [Hl.out]; exact k1)
      have K1 := Lib.hid k1
      clear k1
      by_cases k2 : PermN p q
      · have e2 : pb ((q.length : Int) = (n : Int) ∧ PermOk q) = true := pb_true (by rw [Hl.out]; exact k2)
        have K2 := Lib.hid k2
        clear k2
        by_cases k3 : PermN p s
        · have e3 : pb ((s.length : Int) = (n : Int) ∧ PermOk s) = true := pb_true (by rw [Hl.out]; exact k3)
          have K3 := Lib.hid k3
          clear k3
          have hall : pb (PermN p r ∧ PermN p q ∧ PermN p s) = true := pb_true ⟨K1.out, K2.out, K3.out⟩
          have Hall := Lib.hid hall
          obtain ⟨f1, g1⟩ := K1.out.facts hp.len hr.len
          obtain ⟨f2, g2⟩ := K2.out.facts hp.len hq.len
          obtain ⟨f3, g3⟩ := K3.out.facts hp.len hs.len
          subst f1 f2 f3
          have G1 := Lib.hid g1
          have G2 := Lib.hid g2
          clear hall g1 g2 g3
          go_enter Try.func44, Try.ntmps44
          go_wp2_with fail
          refine (l06Ok_any _ _ _ p _ hp).mono ?_
          rintro e w2 ⟨rfl, hE0⟩
          rw [hb]
          go_wp2_with fail
          refine (l06Perm_any _ _ _ r _ _ (hr.ext hE0)).mono ?_
          rintro e w3 ⟨rfl, hE1⟩
          rw [e1]
          go_wp2_with fail
          refine (l06Perm_any _ _ _ q _ _ (hq.ext (hE0.trans hE1))).mono ?_
          rintro e w4 ⟨rfl, hE2⟩
          rw [e2]
          go_wp2_with fail
          refine (l06Perm_any _ _ _ s _ _ (hs.ext ((hE0.trans hE1).trans hE2))).mono ?_
          rintro e w5 ⟨rfl, hE3⟩
          rw [e3]
          have hE := ((hE0.trans hE1).trans hE2).trans hE3
          clear hE0 hE1 hE2 hE3
          go_wp2_with fail
          refine (l06Isotope_any _ _ _ p _ _ r _ _ q _ _ s _ (hp.ext hE) (hr.ext hE) (hq.ext hE) (hs.ext hE) H.out G1.out G2.out).mono ?_
          rintro e w6 ⟨a4, n4, c4, rs, rfl, hO, hE4⟩
          go_wp2
          go_ret2
          exact RetRC.mk_ hO hE.size (by rw [isoM, if_pos Hb.out, if_pos Hall.out, ← Hl.out]) (by rw [isoC, if_pos Hb.out, if_pos Hall.out]) (hE.trans hE4)
        · have e3 : pb ((s.length : Int) = (n : Int) ∧ PermOk s) = false := pb_false (by rw [Hl.out]; exact k3)
          have Hno : Hid (pb (PermN p r ∧ PermN p q ∧ PermN p s) = false) := Lib.hid (pb_false (fun h => k3 h.2.2))
          clear k3
          go_enter Try.func44, Try.ntmps44
          go_wp2_with fail
          refine (l06Ok_any _ _ _ p _ hp).mono ?_
          rintro e w2 ⟨rfl, hE0⟩
          rw [hb]
          go_wp2_with fail
          refine (l06Perm_any _ _ _ r _ _ (hr.ext hE0)).mono ?_
          rintro e w3 ⟨rfl, hE1⟩
          rw [e1]
          go_wp2_with fail
          refine (l06Perm_any _ _ _ q _ _ (hq.ext (hE0.trans hE1))).mono ?_
          rintro e w4 ⟨rfl, hE2⟩
          rw [e2]
          go_wp2_with fail
          refine (l06Perm_any _ _ _ s _ _ (hs.ext ((hE0.trans hE1).trans hE2))).mono ?_
          rintro e w5 ⟨rfl, hE3⟩
          rw [e3]
          have hE := ((hE0.trans hE1).trans hE2).trans hE3
          go_wp2
          go_ret2
          exact RetRC.nil_ (by rw [isoM, if_pos Hb.out, Hno.out]; rfl) (by rw [isoC, if_pos Hb.out, Hno.out]; rfl) hE
      · have e2 : pb ((q.length : Int) = (n : Int) ∧ PermOk q) = false := pb_false (by rw [Hl.out]; exact k2)
        have Hno : Hid (pb (PermN p r ∧ PermN p q ∧ PermN p s) = false) := Lib.hid (pb_false (fun h => k2 h.2.1))
        clear k2
        go_enter Try.func44, Try.ntmps44
        go_wp2_with fail
        refine (l06Ok_any _ _ _ p _ hp).mono ?_
        rintro e w2 ⟨rfl, hE0⟩
        rw [hb]
        go_wp2_with fail
        refine (l06Perm_any _ _ _ r _ _ (hr.ext hE0)).mono ?_
        rintro e w3 ⟨rfl, hE1⟩
        rw [e1]
        go_wp2_with fail
        refine (l06Perm_any _ _ _ q _ _ (hq.ext (hE0.trans hE1))).mono ?_
        rintro e w4 ⟨rfl, hE2⟩
        rw [e2]
        go_wp2
        go_ret2
        exact RetRC.nil_ (by rw [isoM, if_pos Hb.out, Hno.out]; rfl) (by rw [isoC, if_pos Hb.out, Hno.out]; rfl) ((hE0.trans hE1).trans hE2)
    · have e1 : pb ((r.length : Int) = (n : Int) ∧ PermOk r) = false := pb_false (by rw [Hl.out]; exact k1)
      have Hno : Hid (pb (PermN p r ∧ PermN p q ∧ PermN p s) = false) := Lib.hid (pb_false (fun h => k1 h.1))
      clear k1
      go_enter Try.func44, Try.ntmps44
      go_wp2_with fail
      refine (l06Ok_any _ _ _ p _ hp).mono ?_
      rintro e w2 ⟨rfl, hE0⟩
      rw [hb]
      go_wp2_with fail
      refine (l06Perm_any _ _ _ r _ _ (hr.ext hE0)).mono ?_
      rintro e w3 ⟨rfl, hE1⟩
      rw [e1]
      go_wp2
      go_ret2
      exact RetRC.nil_ (by rw [isoM, if_pos Hb.out, Hno.out]; rfl) (by rw [isoC, if_pos Hb.out, Hno.out]; rfl) (hE0.trans hE1)
  · have hb : pb (SqOk p) = false := pb_false h
    have Hb := Lib.hid hb
    go_enter Try.func44, Try.ntmps44
    go_wp2_with fail
    refine (l06Ok_any _ _ _ p _ hp).mono ?_
    rintro e w2 ⟨rfl, hE⟩
    rw [hb]
    go_wp2
    go_ret2
    exact RetRC.nil_ (by rw [isoM, Hb.out]; rfl) (by rw [isoC, Hb.out]; rfl) hE

set_option maxRecDepth 100000 in
set_option maxHeartbeats 1600000 in
theorem implIso (a : Option Addr) (n c : Nat) (p : List (List Int)) (a1 : Option Addr) (n1 c1 : Nat) (r : List Int) (a2 : Option Addr) (n2 c2 : Nat) (q : List Int) (a3 : Option Addr) (n3 c3 : Nat) (s : List Int) (w : World)
    (hp : RdR w a n c p) (ht : p.length + tot p ≤ 1048576) (hr : RdI w a1 n1 c1 r) (hr1 : n1 ≤ 1048576) (hq : RdI w a2 n2 c2 q) (hq1 : n2 ≤ 1048576) (hs : RdI w a3 n3 c3 s) (hs1 : n3 ≤ 1048576) :
    Calls Try.prog 45 #[.slice a n c, .slice a1 n1 c1, .slice a2 n2 c2, .slice a3 n3 c3] w (RetRC w (isoM p r q s) (isoC p r q s)) := by
  have hb1 := hp.le
  have hb2 := hp.max
  have Hl := Lib.hid hp.len
  by_cases h : SqOk p
  · have hb : pb (SqOk p) = true := pb_true h
    have Hb := Lib.hid hb
    have H := Lib.hid h
    have hn : n ≤ 10 := by have := h.2.1; have := Hl.out; omega
    clear h
    have hL := Lib.hid (allPerm3 (r := r) (q := q) (s := s) hp.len)
    go_enter Try.func45, Try.ntmps45
    go_wp2_with fail
    refine (validSquare_any _ _ _ p _ hp).mono ?_
    rintro e w2 ⟨rfl, hE0⟩
    rw [hb]
    go_wp2_with fail
    refine (sizeR_any _ _ _ _).mono ?_
    rintro e w3 ⟨rfl, rfl⟩
    go_wp2_with fail
    refine (arePerm_any _ _ _ _ [r, q, s] _ (rd3 (hr.ext (hE0.alloc _)) (hq.ext (hE0.alloc _)) (hs.ext (hE0.alloc _)) (by simp) (by simp) (by simp)) (by omega)).mono ?_
    rintro e w4 ⟨rfl, hE1⟩
    have hE := (hE0.alloc _).trans hE1
    clear hE0 hE1
    by_cases k : PermN p r ∧ PermN p q ∧ PermN p s
    · have hall : pb (PermN p r ∧ PermN p q ∧ PermN p s) = true := pb_true k
      have Hall := Lib.hid hall
      obtain ⟨f1, g1⟩ := k.1.facts hp.len hr.len
      obtain ⟨f2, g2⟩ := k.2.1.facts hp.len hq.len
      obtain ⟨f3, g3⟩ := k.2.2.facts hp.len hs.len
      subst f1 f2 f3
      have G1 := Lib.hid g1
      have G2 := Lib.hid g2
      rw [pb_true (hL.out.2 k)]
      clear hall g1 g2 g3 k
      go_wp2_with fail
      refine (isotope_any _ _ _ p _ _ r _ _ q _ _ s _ (hp.ext hE) (hr.ext hE) (hq.ext hE) (hs.ext hE) H.out G1.out G2.out).mono ?_
      rintro e w6 ⟨a4, n4, c4, rs, rfl, hO, hE4⟩
      go_wp2
      go_ret2
      exact RetRC.mk_ hO hE.size (by rw [isoM, if_pos Hb.out, if_pos Hall.out, ← Hl.out]) (by rw [isoC, if_pos Hb.out, if_pos Hall.out]) (hE.trans hE4)
    · have Hno : Hid (pb (PermN p r ∧ PermN p q ∧ PermN p s) = false) := Lib.hid (pb_false k)
      rw [pb_false (fun h => k (hL.out.1 h))]
      clear k
      go_wp2
      go_ret2
      exact RetRC.nil_ (by rw [isoM, if_pos Hb.out, Hno.out]; rfl) (by rw [isoC, if_pos Hb.out, Hno.out]; rfl) hE
  · have hb : pb (SqOk p) = false := pb_false h
    have Hb := Lib.hid hb
    go_enter Try.func45, Try.ntmps45
    go_wp2_with fail
    refine (validSquare_any _ _ _ p _ hp).mono ?_
    rintro e w2 ⟨rfl, hE⟩
    rw [hb]
    go_wp2
    go_ret2
    exact RetRC.nil_ (by rw [isoM, Hb.out]; rfl) (by rw [isoC, Hb.out]; rfl) hE
end Go.Proofs.Ythpcogjglpnjeaa
