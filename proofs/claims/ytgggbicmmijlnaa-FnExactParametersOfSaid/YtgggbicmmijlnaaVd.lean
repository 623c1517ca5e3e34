/- ValidDesign of both. Conditions: none. -/
import Derived.Test.YtgggbicmmijlnaaCmp
import Derived.Test.YtgggbicmmijlnaaRis
import Derived.Test.YtgggbicmmijlnaaVSet
import Derived.Test.YtgggbicmmijlnaaSl
import Derived.Test.YtgggbicmmijlnaaUnitP
import Derived.Test.YtgggbicmmijlnaaBx
namespace Go.Proofs.Ytgggbicmmijlnaa
open Go.RowKit

def BlkOk (z : Int) (b : List Int) : Prop := 0 < b.length ∧ Rises b 0 (z - 1)
/-- A valid design. -/
def DsnOk (z : Int) (p : List (List Int)) : Prop :=
  (1 ≤ z ∧ z ≤ 32) ∧ p.length ≤ 128 ∧ (∀ k, k < p.length → BlkOk z (gr p k)) ∧ ∀ k, 0 < k → k < p.length → cmpL (gr p (k - 1)) (gr p k) ≤ 0

set_option maxHeartbeats 800000 in
theorem l10Block_any (a : Option Addr) (n c : Nat) (xs : List Int) (z : Int) (w : World) (hx : RdI w a n c xs) (h1 : -9223372036854775807 ≤ z) (h2 : z ≤ 9223372036854775807) :
    Calls Try.prog 56 #[.slice a n c, .int .i64 z] w fun e w' => e = .returned (.bool (pb (BlkOk z xs))) ∧ Q w w' := by
  have Hx := Lib.hid hx.len
  by_cases h : 0 < n
  · have hz : (0 : Int) < (n : Int) := by omega
    go_enter Try.func56, Try.ntmps56
    go_wp2_with fail
    refine (l00Rises_any _ _ _ xs _ _ _ hx).mono ?_
    rintro e w2 ⟨rfl, hQ⟩
    go_wp2
    go_ret
    exact ⟨ret_bool (pb_congr ⟨fun k => ⟨by rw [← Hx.out]; exact h, k⟩, fun k => k.2⟩), hQ⟩
  · have hz : ¬ (0 : Int) < (n : Int) := by omega
    have H := Lib.hid h
    clear h
    go_enter Try.func56, Try.ntmps56
    go_wp2
    go_ret
    exact ⟨ret_npb (fun k => H.out (by rw [Hx.out]; exact k.1)), Q.refl _⟩

set_option maxRecDepth 100000 in
set_option maxHeartbeats 3200000 in
theorem l10Ok_any (b0 : Nat) (z : Int) (a : Option Addr) (n c : Nat) (p : List (List Int)) (w : World) (hB : Bx w b0 z a n c) (hx : RdR w a n c p) (lo : -9223372036854775808 ≤ z) (hi : z ≤ 9223372036854775807) :
    Calls Try.prog 27 #[.pointer (some ⟨b0, 0, none⟩)] w fun e w' => e = .returned (.bool (pb (DsnOk z p))) ∧ Q w w' := by
  have hb1 := hx.le
  have hb2 := hx.max
  have Hx := Lib.hid hx.len
  have HB := Lib.hid hB
  obtain ⟨p0, p1⟩ := hB
  obtain ⟨v, hv⟩ : ∃ v, decide (1 ≤ z ∧ z ≤ 32) = v := ⟨_, rfl⟩
  have Hv := Lib.hid hv
  clear hv
  go_enter Try.func27, Try.ntmps27
  go_wp2_with fail
  refine (l00In_any _ _ _ v Hv.out _).mono ?_
  rintro e w2 ⟨rfl, rfl⟩
  cases v
  · have hno := Hv.out
    go_wp2
    go_ret
    exact ⟨ret_npb (fun h => by have := h.1; simp at hno; omega), Q.refl _⟩
  · have hyes : 1 ≤ z ∧ z ≤ 32 := by have := Hv.out; simpa using this
    by_cases h128 : (128 : Int) < (n : Int)
    · have H128 := Lib.hid h128
      clear h128
      have hg1 : decide ((128 : Int) < (n : Int)) = true := decide_eq_true H128.out
      have hgg := H128.out
      go_wp2
      go_ret
      exact ⟨ret_npb (fun h => by have := h.2.1; have := Hx.out; omega), Q.refl _⟩
    · have hg1 : decide ((128 : Int) < (n : Int)) = false := decide_eq_false h128
      have hn : n ≤ 128 := by omega
      go_wp2
      go_loopg [3] n (fun g i wr => ∃ k : Nat, k ≤ n ∧ g = n - k ∧ i = .int .i64 k ∧ Q w wr ∧ Hid ((∀ j, j < k → BlkOk z (gr p j)) ∧ ∀ j, 0 < j → j < k → cmpL (gr p (j - 1)) (gr p j) ≤ 0))
      case atStart => exact ⟨0, Nat.zero_le _, rfl, rfl, Q.refl _, fun j h => absurd h (Nat.not_lt_zero _), fun j _ h => absurd h (Nat.not_lt_zero _)⟩
      case round =>
        obtain ⟨k, hk, rfl, rfl, hQ, HP⟩ := hrel
        replace p0 := hQ.ext.cell p0
        replace p1 := hQ.ext.cell p1
        by_cases hlt : k < n
        · have hxw := hx.ext hQ.ext
          have hz : (k : Int) < (n : Int) := by omega
          have bad : (¬ BlkOk z (gr p k) ∨ 0 < k ∧ 0 < cmpL (gr p (k - 1)) (gr p k)) → ∀ m, Ending.returned (.bool false) = .returned (.bool (pb (DsnOk z p))) ∧ Q w (wr.drewN m) := fun h m =>
            ⟨ret_npb (fun h2 => by
              rcases h with h | h
              · exact h (h2.2.2.1 k (by have := Hx.out; omega))
              · have := h2.2.2.2 k h.1 (by have := Hx.out; omega); omega), hQ.drewN _⟩
          have Bad := Lib.hid bad
          have good : BlkOk z (gr p k) → (0 < k → cmpL (gr p (k - 1)) (gr p k) ≤ 0) → Hid ((∀ j, j < k + 1 → BlkOk z (gr p j)) ∧ ∀ j, 0 < j → j < k + 1 → cmpL (gr p (j - 1)) (gr p j) ≤ 0) := fun h1 h2 => ⟨fun j hj => by
            by_cases e : j = k
            · subst e; exact h1
            · exact HP.out.1 j (by omega), fun j hj0 hj => by
            by_cases e : j = k
            · subst e; exact h2 hj0
            · exact HP.out.2 j hj0 (by omega)⟩
          have Good := Lib.hid good
          clear bad good
          cases k with
          | zero =>
            obtain ⟨b, o, ai, ni, ci, rfl, hc, hrow⟩ := hxw.gr hlt
            rw [Nat.add_zero] at hc
            have hz0 : (0 : Int) < (n : Int) := by omega
            rcases pbc (BlkOk z (gr p 0)) with ⟨hb, Hb⟩ | ⟨hb, Hb⟩
            · skip
              have kb : ∀ m, Calls Try.prog 56 #[.slice ai ni ci, .int .i64 z] (wr.drewN m) fun e w' => e = .returned (.bool true) ∧ Q (wr.drewN m) w' := fun m => by
                have := l10Block_any ai ni ci (gr p 0) z (wr.drewN m) (RdI.ext hrow ((Ext.refl _).drewN _)) (by omega) (by omega)
                rwa [hb] at this
              go_wp2_with fail
              go_quiet ((go_at_call 56; exact quiet_q (kb _)))
              go_wp2
              go_roundg (n - 1)
              case measure => go_light; omega
              case rel => go_light; exact ⟨1, by omega, rfl, by go_num, hQ.drewN _, Good.out Hb.out (fun h => by omega)⟩
            · skip
              have kb : ∀ m, Calls Try.prog 56 #[.slice ai ni ci, .int .i64 z] (wr.drewN m) fun e w' => e = .returned (.bool false) ∧ Q (wr.drewN m) w' := fun m => by
                have := l10Block_any ai ni ci (gr p 0) z (wr.drewN m) (RdI.ext hrow ((Ext.refl _).drewN _)) (by omega) (by omega)
                rwa [hb] at this
              go_wp2_with fail
              go_quiet ((go_at_call 56; exact quiet_q (kb _)))
              go_wp2
              go_ret
              exact Bad.out (.inl Hb.out) _
          | succ j =>
            obtain ⟨b, o, ai, ni, ci, rfl, hc, hrow⟩ := hxw.gr hlt
            obtain ⟨b', o', ai', ni', ci', hh, hc2, hrow2⟩ := hxw.gr (k := j) (by omega)
            cases hh
            have hz1 : (j : Int) + 1 < (n : Int) := by omega
            have hz2 : (j : Int) < (n : Int) := by omega
            have hd : decide ((0 : Int) < (j : Int) + 1) = true := decide_eq_true (by omega)
            have hd1 : (0 : Int) < (j : Int) + 1 := by omega
            have hw1 : IntKind.i64.wrap (j : Int) = (j : Int) := IntWalk.i64_in _ (by omega)
            have kc : ∀ m, Calls Try.prog 57 #[.slice ai' ni' ci', .slice ai ni ci] (wr.drewN m) fun e w' => e = .returned (.int .i64 (cmpL (gr p j) (gr p (j + 1)))) ∧ Q (wr.drewN m) w' := fun m =>
              cmpLists_any ai' ai ni' ci' ni ci (gr p j) (gr p (j + 1)) (wr.drewN m) (RdI.ext hrow2 ((Ext.refl _).drewN _)) (RdI.ext hrow ((Ext.refl _).drewN _))
            obtain ⟨v, hv⟩ : ∃ v, cmpL (gr p j) (gr p (j + 1)) = v := ⟨_, rfl⟩
            have Hv := Lib.hid hv
            rw [hv] at kc
            clear hv
            rcases pbc (BlkOk z (gr p (j + 1))) with ⟨hb, Hb⟩ | ⟨hb, Hb⟩
            · skip
              have kb : ∀ m, Calls Try.prog 56 #[.slice ai ni ci, .int .i64 z] (wr.drewN m) fun e w' => e = .returned (.bool true) ∧ Q (wr.drewN m) w' := fun m => by
                have := l10Block_any ai ni ci (gr p (j + 1)) z (wr.drewN m) (RdI.ext hrow ((Ext.refl _).drewN _)) (by omega) (by omega)
                rwa [hb] at this
              clear hrow hrow2 hxw
              by_cases hle : 0 < v
              · have hg : decide (0 < v) = true := decide_eq_true hle
                go_wp2_with fail
                go_quiet ((first
                | (go_at_call 56; exact quiet_q (kb _))
                | (go_at_call 57; exact quiet_q (kc _))))
                clear hw1
                go_wp2
                go_ret
                exact Bad.out (.inr ⟨by omega, by rw [Nat.add_sub_cancel, Hv.out]; exact hle⟩) _
              · have hg : decide (0 < v) = false := decide_eq_false hle
                go_wp2_with fail
                go_quiet ((first
                | (go_at_call 56; exact quiet_q (kb _))
                | (go_at_call 57; exact quiet_q (kc _))))
                clear hw1
                go_wp2
                go_roundg (n - (j + 2))
                case measure => go_light; omega
                case rel => go_light; exact ⟨j + 2, by omega, rfl, by go_num, hQ.drewN _, Good.out Hb.out (fun _ => by rw [Nat.add_sub_cancel, Hv.out]; omega)⟩
            · skip
              have kb : ∀ m, Calls Try.prog 56 #[.slice ai ni ci, .int .i64 z] (wr.drewN m) fun e w' => e = .returned (.bool false) ∧ Q (wr.drewN m) w' := fun m => by
                have := l10Block_any ai ni ci (gr p (j + 1)) z (wr.drewN m) (RdI.ext hrow ((Ext.refl _).drewN _)) (by omega) (by omega)
                rwa [hb] at this
              clear hrow hrow2 hxw
              go_wp2_with fail
              go_quiet ((first
                | (go_at_call 56; exact quiet_q (kb _))
                | (go_at_call 57; exact quiet_q (kc _))))
              clear hw1
              go_wp2
              go_ret
              exact Bad.out (.inl Hb.out) _
        · have hz : ¬ (k : Int) < (n : Int) := by omega
          obtain rfl : n = k := by omega
          go_wp2
          go_ret
          exact ⟨ret_pb ⟨hyes, by rw [← Hx.out]; exact hn, fun k hk => HP.out.1 k (by rw [Hx.out]; exact hk), fun k h0 hk => HP.out.2 k h0 (by rw [Hx.out]; exact hk)⟩, hQ⟩

set_option maxHeartbeats 800000 in
theorem isBlock_any (a : Option Addr) (n c : Nat) (xs : List Int) (z : Int) (w : World) (hx : RdI w a n c xs) (h1 : 1 ≤ z) (h2 : z ≤ 32) :
    Calls Try.prog 87 #[.slice a n c, .int .i64 z] w fun e w' => e = .returned (.bool (pb (BlkOk z xs))) ∧ w = w' := by
  have Hx := Lib.hid hx.len
  by_cases h : 0 < n
  · have hz : (0 : Int) < (n : Int) := by omega
    go_enter Try.func87, Try.ntmps87
    go_wp2_with fail
    refine (validSet_any _ _ _ xs _ _ hx).mono ?_
    rintro e w2 ⟨rfl, rfl⟩
    go_wp2
    go_ret
    exact ⟨ret_bool (pb_congr ⟨fun k => ⟨by rw [← Hx.out]; exact h, k.2⟩, fun k => ⟨by omega, k.2⟩⟩), rfl⟩
  · have hz : ¬ (0 : Int) < (n : Int) := by omega
    have H := Lib.hid h
    clear h
    go_enter Try.func87, Try.ntmps87
    go_wp2
    go_ret
    exact ⟨ret_npb (fun k => H.out (by rw [Hx.out]; exact k.1)), rfl⟩

noncomputable def badBlk (z : Int) (xs : List Int) : Bool := pb (¬ BlkOk z xs)

set_option maxHeartbeats 800000 in
theorem areBlocksF (z : Int) (b1 : Nat) (p : List (List Int)) (w : World) (h1 : 1 ≤ z) (h2 : z ≤ 32) (hc1 : w.cell? ⟨b1, 0, none⟩ = some (.int .i64 z)) :
    Asks 86 #[.pointer (some ⟨b1, 0, none⟩)] p (badBlk z) w := by
  intro i xs a n c w1 hi hE hx
  have hd1 := hE.cell hc1
  show Calls Try.prog 86 #[.slice a n c, .pointer (some ⟨b1, 0, none⟩)] w1 _
  go_enter Try.func86, Try.ntmps86
  go_wp2_with fail
  refine (isBlock_any _ _ _ xs _ _ hx h1 h2).mono ?_
  rintro e w2 ⟨rfl, rfl⟩
  rcases pbc (BlkOk z xs) with ⟨hb, Hb⟩ | ⟨hb, Hb⟩
  · rw [hb]
    go_wp2
    go_ret
    exact ⟨ret_bool (by rw [badBlk, pb_false (fun h => h Hb.out)]), Ext.refl _⟩
  · rw [hb]
    go_wp2
    go_ret
    exact ⟨ret_bool (by rw [badBlk, pb_true Hb.out]), Ext.refl _⟩
def AllBlk (z : Int) (p : List (List Int)) : Prop := ∀ k, k < p.length → BlkOk z (gr p k)
theorem any_badBlk {z : Int} {p : List (List Int)} : p.any (badBlk z) = pb (¬ AllBlk z p) := by
  by_cases h : AllBlk z p
  · rw [pb_false (fun h2 => h2 h), List.any_eq_false]
    intro xs hm
    obtain ⟨k, hk, rfl⟩ := mem_gr hm
    rw [badBlk, pb_false (fun h2 => h2 (h k hk))]
    decide
  · rw [pb_true h, List.any_eq_true]
    apply Classical.byContradiction
    intro hn
    apply h
    intro k hk
    apply Classical.byContradiction
    intro h2
    exact hn ⟨gr p k, List.mem_of_getElem? (gr_get hk), by rw [badBlk, pb_true h2]⟩

set_option maxHeartbeats 800000 in
theorem areBlocks_any (a : Option Addr) (n c : Nat) (p : List (List Int)) (z : Int) (w : World) (hx : RdR w a n c p) :
    Calls Try.prog 60 #[.slice a n c, .int .i64 z] w fun e w' => e = .returned (.bool (pb ((1 ≤ z ∧ z ≤ 32) ∧ AllBlk z p))) ∧ Ext w w' := by
  have hmf : ∀ (fn : Fn) (first cap : Array Value) (w : World), (Instr.makeFunc fn first cap).run Try.prog w = .ok (.func fn first cap) w := fun _ _ _ _ => rfl
  by_cases h : 1 ≤ z ∧ z ≤ 32
  · have H := Lib.hid h
    clear h
    go_enter Try.func60, Try.ntmps60
    go_wp2_with fail
    refine (within_any _ _ _ true (decide_eq_true H.out) _).mono ?_
    rintro e w2 ⟨rfl, rfl⟩
    go_wp2_with fail
    refine (slContainsFunc_any _ _ _ p _ _ _ _ _ (hx.ext ((Ext.refl w).alloc _)) (enters_of Try.func86 (by kernel_rfl) (by kernel_rfl)) (areBlocksF z _ p _ H.out.1 H.out.2 (by simp)) any_badBlk).mono ?_
    rintro e w2 ⟨rfl, hE⟩
    rcases pbc (AllBlk z p) with ⟨hb, Hb⟩ | ⟨hb, Hb⟩
    · rw [pb_false (fun h => h Hb.out)]
      go_wp2
      go_ret
      exact ⟨ret_pb ⟨H.out, Hb.out⟩, Ext.trans ((Ext.refl _).alloc _) hE⟩
    · rw [pb_true Hb.out]
      go_wp2
      go_ret
      exact ⟨ret_npb (fun h => Hb.out h.2), Ext.trans ((Ext.refl _).alloc _) hE⟩
  · have H := Lib.hid h
    clear h
    go_enter Try.func60, Try.ntmps60
    go_wp2_with fail
    refine (within_any _ _ _ false (decide_eq_false H.out) _).mono ?_
    rintro e w2 ⟨rfl, rfl⟩
    go_wp2
    go_ret
    exact ⟨ret_npb (fun h => H.out h.1), (Ext.refl _).alloc _⟩

def SortedL (p : List (List Int)) : Prop := ∀ k, 0 < k → k < p.length → cmpL (gr p (k - 1)) (gr p k) ≤ 0

set_option maxRecDepth 100000 in
set_option maxHeartbeats 1600000 in
theorem slIsSorted_any (a : Option Addr) (n c : Nat) (p : List (List Int)) (w : World) (hx : RdR w a n c p) :
    Calls Try.prog 61 #[.slice a n c, .func (.func 62) #[] #[]] w fun e w' => e = .returned (.bool (pb (SortedL p))) ∧ Ext w w' := by
  have hb1 := hx.le
  have hb2 := hx.max
  have Hx := Lib.hid hx.len
  rcases Nat.eq_zero_or_pos n with h0 | h0
  · subst h0
    go_enter Try.func61, Try.ntmps61
    go_wp2
    go_loopg [5] 0 (fun g i wr => ∃ k : Nat, i = .int .i64 (-1) ∧ g = 0 ∧ Ext w wr ∧ k = 0)
    case atStart => exact ⟨0, rfl, rfl, Ext.refl _, rfl⟩
    case round =>
      obtain ⟨k, rfl, rfl, hE, _⟩ := hrel
      go_wp2
      go_ret
      exact ⟨ret_pb (fun k _ h => by have := Hx.out; omega), hE⟩
  · obtain ⟨m, rfl⟩ : ∃ m, n = m + 1 := ⟨n - 1, by omega⟩
    go_enter Try.func61, Try.ntmps61
    go_wp2
    go_loopg [5] m (fun g i wr => ∃ k : Nat, k ≤ m ∧ g = k ∧ i = .int .i64 k ∧ Ext w wr ∧ Hid (∀ j, k < j → j ≤ m → cmpL (gr p (j - 1)) (gr p j) ≤ 0))
    case atStart => exact ⟨m, Nat.le_refl _, rfl, by go_num, Ext.refl _, fun j h1 h2 => by omega⟩
    case round =>
      obtain ⟨k, hk, hgk, rfl, hE, HP⟩ := hrel
      cases k with
      | zero =>
        go_wp2
        go_ret
        exact ⟨ret_pb (fun k h1 h2 => HP.out k h1 (by have := Hx.out; omega)), hE⟩
      | succ j =>
        have hxw := hx.ext hE
        obtain ⟨b, o, ai, ni, ci, rfl, hc, hrow⟩ := hxw.gr (k := j + 1) (by omega)
        obtain ⟨b', o', ai', ni', ci', hh, hc2, hrow2⟩ := hxw.gr (k := j) (by omega)
        cases hh
        have hz1 : (j : Int) + 1 < (m : Int) + 1 := by omega
        have hz2 : (j : Int) < (m : Int) + 1 := by omega
        have hz3 : (0 : Int) < (j : Int) + 1 := by omega
        have hz4 : IntKind.i64.wrap (j : Int) = (j : Int) := IntWalk.i64_in _ (by omega)
        have kc : ∀ m, Calls Try.prog 62 #[.slice ai ni ci, .slice ai' ni' ci'] (wr.drewN m) fun e w' => e = .returned (.int .i64 (cmpL (gr p (j + 1)) (gr p j))) ∧ wr.drewN m = w' := fun m =>
          slCompare_any ai ai' ni ci ni' ci' (gr p (j + 1)) (gr p j) (wr.drewN m) (RdI.ext hrow ((Ext.refl _).drewN _)) (RdI.ext hrow2 ((Ext.refl _).drewN _))
        obtain ⟨v, hv⟩ : ∃ v, cmpL (gr p (j + 1)) (gr p j) = v := ⟨_, rfl⟩
        have Hv := Lib.hid hv
        have Hneg : Hid (cmpL (gr p j) (gr p (j + 1)) = - v) := Lib.hid (by rw [cmpL_neg, hv])
        rw [hv] at kc
        clear hv hrow hrow2 hxw
        by_cases hle : v < 0
        · have hg : decide (v < 0) = true := decide_eq_true hle
          go_wp2_with fail
          go_quiet ((go_at_call 62; exact quiet_same (kc _)))
          clear hz4
          go_wp2
          go_ret
          exact ⟨ret_npb (fun h => by have := h (j + 1) (by omega) (by have := Hx.out; omega); rw [Nat.add_sub_cancel, Hneg.out] at this; omega), hE.trans ((Ext.refl _).drewN _)⟩
        · have hg : decide (v < 0) = false := decide_eq_false hle
          go_wp2_with fail
          go_quiet ((go_at_call 62; exact quiet_same (kc _)))
          clear hz4
          go_wp2
          go_roundg j
          case measure => go_light; omega
          case rel => go_light; exact ⟨j, by omega, rfl, by go_num, hE.trans ((Ext.refl _).drewN _), fun i h1 h2 => by
            by_cases e : i = j + 1
            · subst e; rw [Nat.add_sub_cancel, Hneg.out]; omega
            · exact HP.out i (by omega) h2⟩


set_option maxHeartbeats 800000 in
theorem validDesign_any (z : Int) (a : Option Addr) (n c : Nat) (p : List (List Int)) (w : World) (hx : RdR w a n c p) :
    Calls Try.prog 29 #[.agg #[.int .i64 z, .slice a n c]] w fun e w' => e = .returned (.bool (pb (DsnOk z p))) ∧ Ext w w' := by
  have Hx := Lib.hid hx.len
  go_enter Try.func29, Try.ntmps29
  go_wp2_with fail
  obtain ⟨W, hW⟩ : ∃ W, w.alloc (.cells #[.int .i64 z, .slice a n c] 30) = W := ⟨_, rfl⟩
  have hEW : Ext w W := by rw [← hW]; exact (Ext.refl _).alloc _
  have p0 : W.cell? ⟨w.heap.size, 0, none⟩ = some (.int .i64 z) := by rw [← hW]; exact (World.cell?_alloc_at _ _ _ _ rfl).trans rfl
  have p1 : W.cell? ⟨w.heap.size, 1, none⟩ = some (.slice a n c) := by rw [← hW]; exact (World.cell?_alloc_at _ _ _ _ rfl).trans rfl
  rw [hW]
  clear hW
  refine (areBlocks_any _ _ _ p _ _ (hx.ext hEW)).mono ?_
  rintro e w2 ⟨rfl, hE2⟩
  replace p0 := hE2.cell p0
  replace p1 := hE2.cell p1
  rcases pbc ((1 ≤ z ∧ z ≤ 32) ∧ AllBlk z p) with ⟨hb, Hb⟩ | ⟨hb, Hb⟩
  · rw [hb]
    by_cases h128 : n ≤ 128
    · have hz : (n : Int) ≤ 128 := by omega
      have hzd : decide ((n : Int) ≤ 128) = true := decide_eq_true hz
      go_wp2_with fail
      refine (slIsSorted_any _ _ _ p _ (hx.ext (hEW.trans hE2))).mono ?_
      rintro e w3 ⟨rfl, hE3⟩
      go_wp2
      go_ret
      exact ⟨ret_bool (pb_congr ⟨fun h => ⟨Hb.out.1, by rw [← Hx.out]; exact h128, Hb.out.2, h⟩, fun h => h.2.2.2⟩), (hEW.trans hE2).trans hE3⟩
    · have hz : ¬ (n : Int) ≤ 128 := by omega
      have hzd : decide ((n : Int) ≤ 128) = false := decide_eq_false hz
      go_wp2
      go_ret
      exact ⟨ret_npb (fun h => h128 (by rw [Hx.out]; exact h.2.1)), hEW.trans hE2⟩
  · rw [hb]
    go_wp2
    go_ret
    exact ⟨ret_npb (fun h => Hb.out ⟨h.1, h.2.2.1⟩), hEW.trans hE2⟩

theorem implVd (z : Int) (a : Option Addr) (n c : Nat) (p : List (List Int)) (w : World) (hx : RdR w a n c p) (_ : p.length + tot p ≤ 1048576) (_ : -9223372036854775808 ≤ z) (_ : z ≤ 9223372036854775807) :
    Calls Try.prog 29 #[.agg #[.int .i64 z, .slice a n c]] w fun e w' => e = .returned (.bool (pb (DsnOk z p))) ∧ Ext w w' := validDesign_any z a n c p w hx
end Go.Proofs.Ytgggbicmmijlnaa
