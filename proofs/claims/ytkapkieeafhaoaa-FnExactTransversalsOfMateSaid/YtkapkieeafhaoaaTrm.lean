/- TransversalsOfMate of both. Conditions: none. -/
import Derived.Test.YtkapkieeafhaoaaOrth
import Derived.Test.YtkapkieeafhaoaaSymC
namespace Go.Proofs.Ytkapkieeafhaoaa
open Go.RowKit

noncomputable def trTo (q : List (List Int)) (k : Nat) : List (List Int) := (List.range k).map fun s => symM q (s : Nat)
theorem trTo_succ (q : List (List Int)) (k : Nat) : trTo q (k + 1) = trTo q k ++ [symM q (k : Nat)] := by rw [trTo, List.range_succ, List.map_append]; rfl
noncomputable def trmC (p q : List (List Int)) : Int := if pb (SqOk p ∧ SqOk q) then (if pb (OrthOk p q) then 0 else 6) else 1
noncomputable def trmM (p q : List (List Int)) : List (List Int) := if pb (SqOk p ∧ SqOk q) then (if pb (OrthOk p q) then trTo q q.length else []) else []
theorem trmM_tot (p q : List (List Int)) : tot (trmM p q) ≤ 1048576 := by
  rw [trmM]
  split
  · rename_i h
    have h0 := pb_iff.1 h
    split
    · have hl : ∀ k, k ≤ q.length → tot (trTo q k) ≤ 10 * k := by
        intro k
        induction k with
        | zero => intro _; simp [trTo, tot]
        | succ k ih =>
          intro hk
          rw [trTo_succ, tot_append]
          have := ih (by omega)
          have e : (symM q (k : Nat)).length ≤ 10 := by
            rw [symM, if_pos (pb_true h0.2)]
            split
            · rw [symTo_len h0.2 (by omega) (by omega) _ (Nat.le_refl _)]; exact h0.2.2.1
            · simp
          simp only [tot]
          omega
      have := hl q.length (Nat.le_refl _)
      have := h0.2.2.1
      omega
    · simp [tot]
  · simp [tot]

set_option maxRecDepth 100000 in
set_option maxHeartbeats 1600000 in
theorem specTrm (a : Option Addr) (n c : Nat) (p : List (List Int)) (a' : Option Addr) (m c' : Nat) (q : List (List Int)) (w : World) (hp : RdR w a n c p) (_ : p.length + tot p ≤ 1048576) (hq : RdR w a' m c' q) (hqs : q.length + tot q ≤ 1048576) :
    Calls Try.prog 42 #[.slice a n c, .slice a' m c'] w (RetRC w (trmM p q) (trmC p q)) := by
  have hb1 := hp.le
  have hb2 := hp.max
  have hb3 := hq.le
  have hb4 := hq.max
  have Hl := Lib.hid hp.len
  have Hm := Lib.hid hq.len
  go_enter Try.func42, Try.ntmps42
  go_wp2_with fail
  refine (l06Ok_any _ _ _ p _ hp).mono ?_
  rintro e w2 ⟨rfl, hE⟩
  rcases pbc (SqOk p) with ⟨hb, Hp⟩ | ⟨hb, Hp⟩
  · rw [hb]
    go_wp2_with fail
    refine (l06Ok_any _ _ _ q _ (hq.ext hE)).mono ?_
    rintro e w3 ⟨rfl, hE3⟩
    rcases pbc (SqOk q) with ⟨hb', Hq⟩ | ⟨hb', Hq⟩
    · rw [hb']
      have hbb : Hid (pb (SqOk p ∧ SqOk q) = true) := Lib.hid (pb_true ⟨Hp.out, Hq.out⟩)
      have hE4 := hE.trans hE3
      have hm10 : m ≤ 10 := by have := Hq.out.2.1; have := Hm.out; omega
      go_wp2_with fail
      refine (l07Orthogonal_any _ _ _ p _ _ _ q _ (hp.ext hE4) (hq.ext hE4)).mono ?_
      rintro e w4 ⟨rfl, hE5⟩
      have hE6 := hE4.trans hE5
      rcases pbc (OrthOk p q) with ⟨ho, Ho⟩ | ⟨ho, Ho⟩
      · rw [ho]
        have Hoo := Lib.hid ho
        clear ho
        go_wp2
        have H0 := OwnR.empty w4
        go_loopg [6, 7] m (fun gh s i wr => ∃ (k : Nat) (ad : Option Addr) (d : Nat) (rs : List Row), k ≤ m ∧ gh = m - k ∧ i = .int .i64 k ∧ s = .slice ad k d ∧ OwnR wr w4.heap.size ad k d (trTo q k) rs ∧ Ext w4 wr)
        case atStart => exact ⟨0, _, 0, [], Nat.zero_le _, rfl, rfl, rfl, H0, (Ext.refl _).alloc _⟩
        case round =>
          obtain ⟨k, ad, d, rs, hk, rfl, rfl, rfl, hO, hEk⟩ := hrel
          clear H0
          by_cases hlt : k < m
          · have hz : (k : Int) < (m : Int) := by omega
            go_wp2_with fail
            refine (specSym _ _ _ q (k : Nat) _ (hq.ext (hE6.trans hEk)) hqs (by omega) (by omega)).mono ?_
            rintro e w5 ⟨a5, n5, c5, rfl, hown, hE7⟩
            have hO2 := hO.ext hE7
            have hE8 := hEk.trans hE7
            have hap : ∀ g, blk a5 = some g → ¬ OwnR.fp ad rs g := fun g hg hf => by have := (hO.lt hf).2; have := (hown.lt hg).1; omega
            have hown2 := hown.base hEk.size
            have hsz := hE8.size
            clear hO hEk hE7 hown
            go_wp2_with (at_builtin; refine app_S rfl _ _ rfl hO2 hsz hown2 hap rfl (by omega) rfl rfl ?_; intro a2 c2 w6 hrows honly hmv)
            have hE9 := hE8.app hO2.top honly (Nat.le_refl _)
            rw [← trTo_succ] at hrows
            clear hO2 hE8 honly hmv hsz hown2 hap
            go_wp2
            go_roundg (m - (k + 1))
            case measure => go_light; omega
            case rel => go_light; exact ⟨k + 1, a2, c2, _, by omega, rfl, by go_num, rfl, hrows, hE9⟩
          · have hz : ¬ (k : Int) < (m : Int) := by omega
            obtain rfl : m = k := by omega
            go_wp2
            go_ret2
            exact RetRC.mk_ hO hE6.size (by rw [trmM, if_pos hbb.out, if_pos Hoo.out, ← Hm.out]) (by rw [trmC, if_pos hbb.out, if_pos Hoo.out]) (hE6.trans hEk)
      · rw [ho]
        have Hoo := Lib.hid ho
        clear ho
        go_wp2
        go_ret2
        exact RetRC.nil_ (by rw [trmM, if_pos hbb.out, Hoo.out]; rfl) (by rw [trmC, if_pos hbb.out, Hoo.out]; rfl) hE6
    · rw [hb']
      have hbb : Hid (pb (SqOk p ∧ SqOk q) = false) := Lib.hid (pb_false (fun h => Hq.out h.2))
      go_wp2
      go_ret2
      exact RetRC.nil_ (by rw [trmM, hbb.out]; rfl) (by rw [trmC, hbb.out]; rfl) (hE.trans hE3)
  · rw [hb]
    have hbb : Hid (pb (SqOk p ∧ SqOk q) = false) := Lib.hid (pb_false (fun h => Hp.out h.1))
    go_wp2
    go_ret2
    exact RetRC.nil_ (by rw [trmM, hbb.out]; rfl) (by rw [trmC, hbb.out]; rfl) hE

set_option maxRecDepth 100000 in
set_option maxHeartbeats 1600000 in
theorem implTrm (a : Option Addr) (n c : Nat) (p : List (List Int)) (a' : Option Addr) (m c' : Nat) (q : List (List Int)) (w : World) (hp : RdR w a n c p) (_ : p.length + tot p ≤ 1048576) (hq : RdR w a' m c' q) (hqs : q.length + tot q ≤ 1048576) :
    Calls Try.prog 43 #[.slice a n c, .slice a' m c'] w (RetRC w (trmM p q) (trmC p q)) := by
  have hb1 := hp.le
  have hb2 := hp.max
  have hb3 := hq.le
  have hb4 := hq.max
  have Hl := Lib.hid hp.len
  have Hm := Lib.hid hq.len
  go_enter Try.func43, Try.ntmps43
  go_wp2_with fail
  refine (validSquare_any _ _ _ p _ hp).mono ?_
  rintro e w2 ⟨rfl, hE⟩
  rcases pbc (SqOk p) with ⟨hb, Hp⟩ | ⟨hb, Hp⟩
  · rw [hb]
    go_wp2_with fail
    refine (validSquare_any _ _ _ q _ (hq.ext hE)).mono ?_
    rintro e w3 ⟨rfl, hE3⟩
    rcases pbc (SqOk q) with ⟨hb', Hq⟩ | ⟨hb', Hq⟩
    · rw [hb']
      have hbb : Hid (pb (SqOk p ∧ SqOk q) = true) := Lib.hid (pb_true ⟨Hp.out, Hq.out⟩)
      have hE4 := hE.trans hE3
      have hm10 : m ≤ 10 := by have := Hq.out.2.1; have := Hm.out; omega
      go_wp2_with fail
      refine (orthogonal_any _ _ _ p _ _ _ q _ (hp.ext hE4) (hq.ext hE4) Hp Hq).mono ?_
      rintro e w4 ⟨rfl, hE5⟩
      have hE6 := hE4.trans hE5
      rcases pbc (OrthOk p q) with ⟨ho, Ho⟩ | ⟨ho, Ho⟩
      · rw [ho]
        have Hoo := Lib.hid ho
        clear ho
        go_wp2
        go_loopg [6, 24] m (fun gh s i wr => ∃ (k : Nat) (ad : Option Addr) (d : Nat) (rs : List Row), k ≤ m ∧ gh = m - k ∧ i = .int .i64 k ∧ s = .slice ad k d ∧ OwnR wr w4.heap.size ad k d (trTo q k) rs ∧ Ext w4 wr)
        case atStart => exact ⟨0, _, 0, [], Nat.zero_le _, rfl, rfl, rfl, OwnR.nil_ _ _, Ext.refl _⟩
        case round =>
          obtain ⟨k, ad, d, rs, hk, rfl, rfl, rfl, hO, hEk⟩ := hrel
          by_cases hlt : k < m
          · have hz : (k : Int) < (m : Int) := by omega
            go_wp2_with fail
            refine (implSym _ _ _ q (k : Nat) _ (hq.ext (hE6.trans hEk)) hqs (by omega) (by omega)).mono ?_
            rintro e w5 ⟨a5, n5, c5, rfl, hown, hE7⟩
            have hO2 := hO.ext hE7
            have hE8 := hEk.trans hE7
            have hap : ∀ g, blk a5 = some g → ¬ OwnR.fp ad rs g := fun g hg hf => by have := (hO.lt hf).2; have := (hown.lt hg).1; omega
            have hown2 := hown.base hEk.size
            have hsz := hE8.size
            clear hO hEk hE7 hown
            go_wp2_with (at_builtin; refine app_S rfl _ _ rfl hO2 hsz hown2 hap rfl (by omega) rfl rfl ?_; intro a2 c2 w6 hrows honly hmv)
            have hE9 := hE8.app hO2.top honly (Nat.le_refl _)
            rw [← trTo_succ] at hrows
            clear hO2 hE8 honly hmv hsz hown2 hap
            go_wp2
            go_roundg (m - (k + 1))
            case measure => go_light; omega
            case rel => go_light; exact ⟨k + 1, a2, c2, _, by omega, rfl, by go_num, rfl, hrows, hE9⟩
          · have hz : ¬ (k : Int) < (m : Int) := by omega
            obtain rfl : m = k := by omega
            go_wp2
            go_ret2
            exact RetRC.mk_ hO hE6.size (by rw [trmM, if_pos hbb.out, if_pos Hoo.out, ← Hm.out]) (by rw [trmC, if_pos hbb.out, if_pos Hoo.out]) (hE6.trans hEk)
      · rw [ho]
        have Hoo := Lib.hid ho
        clear ho
        go_wp2
        go_ret2
        exact RetRC.nil_ (by rw [trmM, if_pos hbb.out, Hoo.out]; rfl) (by rw [trmC, if_pos hbb.out, Hoo.out]; rfl) hE6
    · rw [hb']
      have hbb : Hid (pb (SqOk p ∧ SqOk q) = false) := Lib.hid (pb_false (fun h => Hq.out h.2))
      go_wp2
      go_ret2
      exact RetRC.nil_ (by rw [trmM, hbb.out]; rfl) (by rw [trmC, hbb.out]; rfl) (hE.trans hE3)
  · rw [hb]
    have hbb : Hid (pb (SqOk p ∧ SqOk q) = false) := Lib.hid (pb_false (fun h => Hp.out h.1))
    go_wp2
    go_ret2
    exact RetRC.nil_ (by rw [trmM, hbb.out]; rfl) (by rw [trmC, hbb.out]; rfl) hE

end Go.Proofs.Ytkapkieeafhaoaa
