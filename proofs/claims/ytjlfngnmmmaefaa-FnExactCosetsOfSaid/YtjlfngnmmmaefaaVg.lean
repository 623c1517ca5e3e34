/- ValidGroup, GroupHas, GeneratorsOf of both. Conditions: none. -/
import Derived.Test.YtjlfngnmmmaefaaVgS
import Derived.Test.YtjlfngnmmmaefaaVgI
import Derived.Test.YtjlfngnmmmaefaaMkg
namespace Go.Proofs.Ytjlfngnmmmaefaa
open Go.RowKit

set_option maxRecDepth 100000 in
set_option maxHeartbeats 3200000 in
theorem validGroup_any (z : Int) (a : Option Addr) (n c : Nat) (p : List (List Int)) (w : World) (hx : RdR w a n c p) (lo : -9223372036854775808 ≤ z) (hi : z ≤ 9223372036854775807) :
    Calls Try.prog 36 #[.agg #[.int .i64 z, .slice a n c]] w fun e w' => e = .returned (.bool (pb (GrpOk z p))) ∧ Ext w w' := by
  have hb1 := hx.le
  have hb2 := hx.max
  have Hl := Lib.hid hx.len
  have hEW : Ext w (w.alloc (.cells #[.int .i64 z, .slice a n c] 29)) := (Ext.refl _).alloc _
  have hB : Bx (w.alloc (.cells #[.int .i64 z, .slice a n c] 29)) w.heap.size z a n c := ⟨(World.cell?_alloc_at _ _ _ _ rfl).trans rfl, (World.cell?_alloc_at _ _ _ _ rfl).trans rfl⟩
  have HB := Lib.hid hB
  clear hB
  go_enter Try.func36, Try.ntmps36
  by_cases hz : 1 ≤ z ∧ z ≤ 32
  · have Hz := Lib.hid hz
    have hz1 : 1 ≤ z := hz.1
    have hz2 : z ≤ 32 := hz.2
    clear hz
    go_wp2_with fail
    refine (within_any _ _ _ true (decide_eq_true Hz.out) _).mono ?_
    rintro e w2 ⟨rfl, rfl⟩
    by_cases hn0 : (n : Int) < 1
    · have he : decide ((n : Int) < 1) = true := decide_eq_true hn0
      have Hn0 := Lib.hid hn0
      clear hn0
      go_wp2
      go_ret
      exact ⟨ret_npb (fun h => by have h1 := h.2.1.1; have h2 := Hl.out; have h3 := Hn0.out; omega), hEW⟩
    · have he : decide ((n : Int) < 1) = false := decide_eq_false hn0
      have hn1 : 1 ≤ n := by omega
      have hnz : ¬ n = 0 := by omega
      by_cases h720 : (720 : Int) < (n : Int)
      · have hg : decide ((720 : Int) < (n : Int)) = true := decide_eq_true h720
        have H720 := Lib.hid h720
        clear h720 hn0
        go_wp2
        go_ret
        exact ⟨ret_npb (fun h => by have h1 := h.2.1.2; have h2 := Hl.out; have h3 := H720.out; omega), hEW⟩
      · have hg : decide ((720 : Int) < (n : Int)) = false := decide_eq_false h720
        have hn2 : n ≤ 720 := by omega
        clear h720 hn0
        go_wp2_with fail
        refine (arePerm_any z _ _ _ p _ (hx.ext hEW) (by omega)).mono ?_
        rintro e w2 ⟨rfl, hE2⟩
        have hEw2 := hEW.trans hE2
        obtain ⟨p0, p1⟩ := HB.out.ext hE2
        rcases pbc (AllPerm z p) with ⟨hb, Hb⟩ | ⟨hb, Hb⟩
        · rw [hb]
          clear hb
          go_wp2
          go_loopg [3] (n - 1) (fun gh i wr => ∃ k : Nat, 1 ≤ k ∧ k ≤ n ∧ gh = n - k ∧ i = .int .i64 k ∧ Q w2 wr ∧ Hid (∀ j, 0 < j → j < k → cmpL (gr p (j - 1)) (gr p j) < 0))
          case atStart => exact ⟨1, Nat.le_refl _, hn1, rfl, rfl, Q.refl _, Lib.hid (fun j h1 h2 => by omega)⟩
          case round =>
            clear p0 p1
            obtain ⟨k, hk1, hk, rfl, rfl, hQ, HP⟩ := hrel
            obtain ⟨p0, p1⟩ := HB.out.ext (hE2.trans hQ.ext)
            have hEwr := hEw2.trans hQ.ext
            by_cases hlt : k < n
            · obtain ⟨j, rfl⟩ : ∃ j, k = j + 1 := ⟨k - 1, by omega⟩
              have hxw := hx.ext hEwr
              have hzk : ((j + 1 : Nat) : Int) < (n : Int) := by omega
              obtain ⟨b, o, ai, ni, ci, rfl, hc, hrow⟩ := hxw.gr hlt
              obtain ⟨b', o', ai', ni', ci', hh, hc2, hrow2⟩ := hxw.gr (k := j) (by omega)
              cases hh
              have hzj1 : (j : Int) + 1 < (n : Int) := by omega
              have hzj2 : (j : Int) < (n : Int) := by omega
              have hw1 : IntKind.i64.wrap (j : Int) = (j : Int) := IntWalk.i64_in _ (by omega)
              obtain ⟨v, hv⟩ : ∃ v, cmpL (gr p j) (gr p (j + 1)) = v := ⟨_, rfl⟩
              have kc : ∀ m, Calls Try.prog 67 #[.slice ai' ni' ci', .slice ai ni ci] (wr.drewN m) fun e w' => e = .returned (.int .i64 v) ∧ wr.drewN m = w' := fun m => by
                rw [← hv]
                exact slCompare_any ai' ai ni' ci' ni ci (gr p j) (gr p (j + 1)) (wr.drewN m) (RdI.ext hrow2 ((Ext.refl _).drewN _)) (RdI.ext hrow ((Ext.refl _).drewN _))
              have Hv := Lib.hid hv
              clear hv hrow hrow2 hxw
              by_cases hle : 0 ≤ v
              · have hgv : decide (0 ≤ v) = true := decide_eq_true hle
                go_wp2_with fail
                go_quiet ((go_at_call 67; exact quiet_same (kc _)))
                clear hw1
                go_wp2
                go_ret
                exact ⟨ret_npb (fun h => by have h9 := h.2.2.2.1 (j + 1) (by omega) (by have := Hl.out; omega); rw [Nat.add_sub_cancel, Hv.out] at h9; omega), hEwr.drewN _⟩
              · have hgv : decide (0 ≤ v) = false := decide_eq_false hle
                have HP2 : Hid (∀ i, 0 < i → i < j + 2 → cmpL (gr p (i - 1)) (gr p i) < 0) := Lib.hid (fun i h1 h2 => by
                  by_cases e : i = j + 1
                  · subst e; rw [Nat.add_sub_cancel, Hv.out]; omega
                  · exact HP.out i h1 (by omega))
                go_wp2_with fail
                go_quiet ((go_at_call 67; exact quiet_same (kc _)))
                clear hw1
                go_wp2
                go_roundg (n - (j + 2))
                case measure => go_light; omega
                case rel => go_light; exact ⟨j + 2, by omega, by omega, rfl, by go_num, hQ.drewN _, HP2⟩
            · have hzk : ¬ (k : Int) < (n : Int) := by omega
              obtain rfl : n = k := by omega
              obtain ⟨z', rfl⟩ := Int.eq_ofNat_of_zero_le (show 0 ≤ z by omega)
              have hst : Hid (Strict p) := Lib.hid (fun j h0 hj => HP.out j h0 (by have := Hl.out; omega))
              have hpn : Hid (PermsN z' p) := Lib.hid (AllPerm.perms Hb.out)
              go_wp2_with fail
              refine (chosen_any z' _ _ _ p _ (hx.ext hEwr) hpn.out (by omega) (by omega) hn2).mono ?_
              rintro e w5 ⟨a1, m1, c1, a2, m2, c2, b, rfl, hE5, G, A, hG, hA, hC⟩
              have hEn := hEwr.trans hE5
              obtain ⟨q0, q1⟩ := HB.out.ext ((hE2.trans hQ.ext).trans hE5)
              have hiff : Hid (GrpOk (z' : Int) p ↔ (b = true ∧ A.length = p.length)) := Lib.hid ⟨fun h => (cho_closed hst.out hpn.out (by have := Hl.out; omega) hC).1 h.2.2.2.2, fun h => ⟨Hz.out, ⟨by rw [← Hl.out]; exact hn1, by rw [← Hl.out]; exact hn2⟩, Hb.out, hst.out, (cho_closed hst.out hpn.out (by have := Hl.out; omega) hC).2 h⟩⟩
              have HA := Lib.hid hA.len
              clear hC hG hA p0 p1
              cases b
              · go_wp2
                go_ret
                exact ⟨ret_npb (fun h => by have := (hiff.out.1 h).1; cases this), hEn⟩
              · by_cases hmn : m2 = n
                · have hmb : ((m2 : Int) == (n : Int)) = true := by simp [hmn]
                  have hok : Hid (GrpOk (z' : Int) p) := Lib.hid (hiff.out.2 ⟨rfl, by rw [← HA.out, ← Hl.out]; exact hmn⟩)
                  clear hmn
                  go_wp2
                  go_ret
                  exact ⟨ret_pb hok.out, hEn⟩
                · have hmb : ((m2 : Int) == (n : Int)) = false := by simp; omega
                  have hok : Hid (¬ GrpOk (z' : Int) p) := Lib.hid (fun h => hmn (by rw [HA.out, Hl.out]; exact (hiff.out.1 h).2))
                  clear hmn
                  go_wp2
                  go_ret
                  exact ⟨ret_npb hok.out, hEn⟩
        · rw [hb]
          clear hb
          go_wp2
          go_ret
          exact ⟨ret_npb (fun h => Hb.out h.2.2.1), hEw2⟩
  · have Hz := Lib.hid hz
    clear hz
    go_wp2_with fail
    refine (within_any _ _ _ false (decide_eq_false Hz.out) _).mono ?_
    rintro e w2 ⟨rfl, rfl⟩
    go_wp2
    go_ret
    exact ⟨ret_npb (fun h => Hz.out h.1), hEW⟩
theorem implVg (z : Int) (a : Option Addr) (n c : Nat) (p : List (List Int)) (w : World) (hx : RdR w a n c p) (_ : p.length + tot p ≤ 1048576) (lo : -9223372036854775808 ≤ z) (hi : z ≤ 9223372036854775807) :
    Calls Try.prog 36 #[.agg #[.int .i64 z, .slice a n c]] w fun e w' => e = .returned (.bool (pb (GrpOk z p))) ∧ Ext w w' := validGroup_any z a n c p w hx lo hi

theorem specVg (z : Int) (a : Option Addr) (n c : Nat) (p : List (List Int)) (w : World) (hx : RdR w a n c p) (_ : p.length + tot p ≤ 1048576) (lo : -9223372036854775808 ≤ z) (hi : z ≤ 9223372036854775807) :
    Calls Try.prog 35 #[.agg #[.int .i64 z, .slice a n c]] w fun e w' => e = .returned (.bool (pb (GrpOk z p))) ∧ Ext w w' := by
  have hEW : Ext w (w.alloc (.cells #[.int .i64 z, .slice a n c] 29)) := (Ext.refl _).alloc _
  have hB : Bx (w.alloc (.cells #[.int .i64 z, .slice a n c] 29)) w.heap.size z a n c := ⟨(World.cell?_alloc_at _ _ _ _ rfl).trans rfl, (World.cell?_alloc_at _ _ _ _ rfl).trans rfl⟩
  go_enter Try.func35, Try.ntmps35
  go_wp2_with fail
  refine (l05Ok_any _ z a n c p _ hB (hx.ext hEW) lo hi).mono ?_
  rintro e w2 ⟨rfl, hE⟩
  go_wp2
  go_ret
  exact ⟨rfl, hEW.trans hE⟩

theorem hasElement_any (z : Int) (a : Option Addr) (n c : Nat) (p : List (List Int)) (a' : Option Addr) (m c' : Nat) (q : List Int) (w : World) (hx : RdR w a n c p) (hq : RdI w a' m c' q) (hs : SortedLL p) (hn : n ≤ 1048576) :
    Calls Try.prog 70 #[.agg #[.int .i64 z, .slice a n c], .slice a' m c'] w fun e w' => e = .returned (.bool (pb (q ∈ p))) ∧ Ext w w' := by
  have hEW : Ext w (w.alloc (.cells #[.int .i64 z, .slice a n c] 29)) := (Ext.refl _).alloc _
  go_enter Try.func70, Try.ntmps70
  go_wp2_with fail
  refine (slBs_any _ _ _ p _ _ _ q _ (hx.ext hEW) (hq.ext hEW) hs hn).mono ?_
  rintro e w2 ⟨rfl, k, rfl⟩
  go_wp2
  go_ret
  exact ⟨rfl, hEW⟩

set_option maxHeartbeats 800000 in
theorem implHas (z : Int) (a : Option Addr) (n c : Nat) (p : List (List Int)) (a' : Option Addr) (m c' : Nat) (q : List Int) (w : World) (hx : RdR w a n c p) (hs : p.length + tot p ≤ 1048576) (lo : -9223372036854775808 ≤ z) (hi : z ≤ 9223372036854775807) (hq : RdI w a' m c' q) (_ : m ≤ 1048576) :
    Calls Try.prog 38 #[.agg #[.int .i64 z, .slice a n c], .slice a' m c'] w fun e w' => e = .returned (.bool (pb (GrpOk z p ∧ q ∈ p))) ∧ Ext w w' := by
  have Hl := Lib.hid hx.len
  have hEW : Ext w (w.alloc (.cells #[.int .i64 z, .slice a n c] 29)) := (Ext.refl _).alloc _
  have hB : Bx (w.alloc (.cells #[.int .i64 z, .slice a n c] 29)) w.heap.size z a n c := ⟨(World.cell?_alloc_at _ _ _ _ rfl).trans rfl, (World.cell?_alloc_at _ _ _ _ rfl).trans rfl⟩
  go_enter Try.func38, Try.ntmps38
  go_wp2_with fail
  refine (validGroup_any z a n c p _ (hx.ext hEW) lo hi).mono ?_
  rintro e w2 ⟨rfl, hE⟩
  have hEw := hEW.trans hE
  obtain ⟨p0, p1⟩ := hB.ext hE
  rcases pbc (GrpOk z p) with ⟨hb, Hb⟩ | ⟨hb, Hb⟩
  · rw [hb]
    go_wp2_with fail
    refine (hasElement_any z a n c p a' m c' q _ (hx.ext hEw) (hq.ext hEw) Hb.out.2.2.2.1.sorted (by have := Hl.out; omega)).mono ?_
    rintro e w3 ⟨rfl, hE3⟩
    go_wp2
    go_ret
    exact ⟨ret_bool (pb_congr ⟨fun h => ⟨Hb.out, h⟩, fun h => h.2⟩), hEw.trans hE3⟩
  · rw [hb]
    go_wp2
    go_ret
    exact ⟨ret_npb (fun h => Hb.out h.1), hEw⟩

set_option maxHeartbeats 800000 in
theorem specHas (z : Int) (a : Option Addr) (n c : Nat) (p : List (List Int)) (a' : Option Addr) (m c' : Nat) (q : List Int) (w : World) (hx : RdR w a n c p) (hs : p.length + tot p ≤ 1048576) (lo : -9223372036854775808 ≤ z) (hi : z ≤ 9223372036854775807) (hq : RdI w a' m c' q) (_ : m ≤ 1048576) :
    Calls Try.prog 37 #[.agg #[.int .i64 z, .slice a n c], .slice a' m c'] w fun e w' => e = .returned (.bool (pb (GrpOk z p ∧ q ∈ p))) ∧ Ext w w' := by
  have Hl := Lib.hid hx.len
  have hEW : Ext w (w.alloc (.cells #[.int .i64 z, .slice a n c] 29)) := (Ext.refl _).alloc _
  have hB : Bx (w.alloc (.cells #[.int .i64 z, .slice a n c] 29)) w.heap.size z a n c := ⟨(World.cell?_alloc_at _ _ _ _ rfl).trans rfl, (World.cell?_alloc_at _ _ _ _ rfl).trans rfl⟩
  go_enter Try.func37, Try.ntmps37
  go_wp2_with fail
  refine (l05Ok_any _ z a n c p _ hB (hx.ext hEW) lo hi).mono ?_
  rintro e w2 ⟨rfl, hE⟩
  have hEw := hEW.trans hE
  obtain ⟨p0, p1⟩ := hB.ext hE
  rcases pbc (GrpOk z p) with ⟨hb, Hb⟩ | ⟨hb, Hb⟩
  · rw [hb]
    go_wp2_with fail
    refine (l05Find_any a n c p a' m c' q _ (hx.ext hEw) (hq.ext hEw) Hb.out.2.2.2.1.sorted (by have := Hl.out; omega)).mono ?_
    rintro e w3 ⟨k, rfl, hQ3, _⟩
    go_wp2
    go_ret
    exact ⟨ret_bool (pb_congr ⟨fun h => ⟨Hb.out, h⟩, fun h => h.2⟩), hEw.trans hQ3.ext⟩
  · rw [hb]
    go_wp2
    go_ret
    exact ⟨ret_npb (fun h => Hb.out h.1), hEw⟩

noncomputable def gnM (z : Int) (p : List (List Int)) : List (List Int) := if pb (GrpOk z p) then grd z.toNat p p.length else []
theorem grd_tot {n : Nat} {p : List (List Int)} (hp : PermsN n p) (hn : n ≤ 32) (hl : p.length ≤ 720) : (grd n p p.length).length + tot (grd n p p.length) ≤ 1048576 := by
  have h1 := tot_le (p := grd n p p.length) (k := 32) (fun x hx => by rw [(hp x (grd_sub (Nat.le_refl _) x hx)).1]; exact hn)
  have h2 := grd_len n p p.length
  have h3 := Nat.mul_le_mul_right 32 h2
  omega
theorem GrpOk.perms {z : Int} {p : List (List Int)} (h : GrpOk z p) : PermsN z.toNat p := by
  have h1 := h.2.2.1
  rw [show z = ((z.toNat : Nat) : Int) by have := h.1; omega] at h1
  exact h1.perms
theorem gnM_tot (z : Int) (p : List (List Int)) : tot (gnM z p) ≤ 1048576 := by
  rw [gnM]
  split
  · rename_i h0
    have h := pb_iff.1 h0
    have := grd_tot h.perms (by have := h.1; omega) h.2.1.2
    omega
  · simp [tot]

set_option maxHeartbeats 800000 in
theorem implGens (z : Int) (a : Option Addr) (n c : Nat) (p : List (List Int)) (w : World) (hx : RdR w a n c p) (_ : p.length + tot p ≤ 1048576) (lo : -9223372036854775808 ≤ z) (hi : z ≤ 9223372036854775807) :
    Calls Try.prog 40 #[.agg #[.int .i64 z, .slice a n c]] w (RetR w (gnM z p)) := by
  have Hl := Lib.hid hx.len
  have hEW : Ext w (w.alloc (.cells #[.int .i64 z, .slice a n c] 29)) := (Ext.refl _).alloc _
  have hB : Bx (w.alloc (.cells #[.int .i64 z, .slice a n c] 29)) w.heap.size z a n c := ⟨(World.cell?_alloc_at _ _ _ _ rfl).trans rfl, (World.cell?_alloc_at _ _ _ _ rfl).trans rfl⟩
  go_enter Try.func40, Try.ntmps40
  go_wp2_with fail
  refine (validGroup_any z a n c p _ (hx.ext hEW) lo hi).mono ?_
  rintro e w2 ⟨rfl, hE⟩
  have hEw := hEW.trans hE
  obtain ⟨p0, p1⟩ := hB.ext hE
  rcases pbc (GrpOk z p) with ⟨hb, Hb⟩ | ⟨hb, Hb⟩
  · rw [hb]
    obtain ⟨z', rfl⟩ := Int.eq_ofNat_of_zero_le (show 0 ≤ z by have := Hb.out.1; omega)
    have Hbb := Lib.hid hb
    clear hb
    go_wp2_with fail
    refine (chosen_any z' a n c p _ (hx.ext hEw) Hb.out.perms (by have := Hb.out.1; omega) (by have := Hb.out.1; omega) (by have := Hb.out.2.1; have := Hl.out; omega)).mono ?_
    rintro e w3 ⟨a1, m1, c1, a2, m2, c2, b, rfl, hE3, G, A, hG, hA, hC⟩
    have hG2 : G = grd z' p p.length := by
      have h1 := (cho_closed Hb.out.2.2.2.1 Hb.out.perms Hb.out.2.1.2 hC).1 Hb.out.2.2.2.2
      exact (hC.2.2.1 h1.1).1
    subst hG2
    have hEn := hEw.trans hE3
    clear hA hC p0 p1
    go_wp2_with fail
    refine (copyLists_any _ _ _ (grd z' p p.length) _ hG (by have := grd_tot Hb.out.perms (by have := Hb.out.1; omega) Hb.out.2.1.2; rw [Int.toNat_natCast] at this; omega)).mono ?_
    rintro e w4 ⟨a4, n4, c4, rs4, rfl, hO, hE4⟩
    have hO2 := hO.base hEn.size
    have hEz := hEn.trans hE4
    go_wp2
    go_ret
    exact ⟨_, _, _, _, rfl, by rw [gnM, if_pos Hbb.out, Int.toNat_natCast]; exact hO2, hEz⟩
  · rw [hb]
    have Hbb := Lib.hid hb
    clear hb
    go_wp2
    go_ret
    exact ⟨none, 0, 0, [], rfl, by rw [gnM, Hbb.out]; exact OwnR.nil_ _ _, hEw⟩

set_option maxHeartbeats 800000 in
theorem specGens (z : Int) (a : Option Addr) (n c : Nat) (p : List (List Int)) (w : World) (hx : RdR w a n c p) (_ : p.length + tot p ≤ 1048576) (lo : -9223372036854775808 ≤ z) (hi : z ≤ 9223372036854775807) :
    Calls Try.prog 39 #[.agg #[.int .i64 z, .slice a n c]] w (RetR w (gnM z p)) := by
  have Hl := Lib.hid hx.len
  have hEW : Ext w (w.alloc (.cells #[.int .i64 z, .slice a n c] 29)) := (Ext.refl _).alloc _
  have hB : Bx (w.alloc (.cells #[.int .i64 z, .slice a n c] 29)) w.heap.size z a n c := ⟨(World.cell?_alloc_at _ _ _ _ rfl).trans rfl, (World.cell?_alloc_at _ _ _ _ rfl).trans rfl⟩
  go_enter Try.func39, Try.ntmps39
  go_wp2_with fail
  refine (l05Ok_any _ z a n c p _ hB (hx.ext hEW) lo hi).mono ?_
  rintro e w2 ⟨rfl, hE⟩
  have hEw := hEW.trans hE
  obtain ⟨p0, p1⟩ := hB.ext hE
  rcases pbc (GrpOk z p) with ⟨hb, Hb⟩ | ⟨hb, Hb⟩
  · rw [hb]
    obtain ⟨z', rfl⟩ := Int.eq_ofNat_of_zero_le (show 0 ≤ z by have := Hb.out.1; omega)
    have Hbb := Lib.hid hb
    clear hb
    go_wp2_with fail
    refine (l05Gens_any z' a n c p _ (hx.ext hEw) Hb.out.perms Hb.out.2.2.2.1 (by have := Hb.out.1; omega) (by have := Hb.out.1; omega) (by have := Hb.out.2.1; have := Hl.out; omega) (by have := Hb.out.2.1; have := Hl.out; omega)).mono ?_
    rintro e w3 ⟨a1, m1, c1, rfl, hE3, L, ⟨rs, hO⟩, HL⟩
    have hL2 : L = grd z' p p.length := HL.out Hb.out.2.2.2.2
    subst hL2
    have hEn := hEw.trans hE3
    have hO2 := hO.base hEw.size
    go_wp2
    go_ret
    exact ⟨_, _, _, _, rfl, by rw [gnM, if_pos Hbb.out, Int.toNat_natCast]; exact hO2, hEn⟩
  · rw [hb]
    have Hbb := Lib.hid hb
    clear hb
    go_wp2
    go_ret
    exact ⟨none, 0, 0, [], rfl, by rw [gnM, Hbb.out]; exact OwnR.nil_ _ _, hEw⟩
end Go.Proofs.Ytjlfngnmmmaefaa
