/- IsGroupBased of both. Conditions: none. -/
import Derived.Test.YtkapkieeafhaoaaRdc
import Derived.Test.YtkapkieeafhaoaaAss
namespace Go.Proofs.Ytkapkieeafhaoaa
open Go.RowKit

def GrbOk (p : List (List Int)) : Prop := SqOk p ∧ Assoc (rdT p p.length) p.length

set_option maxHeartbeats 800000 in
theorem specGrb (a : Option Addr) (n c : Nat) (p : List (List Int)) (w : World) (hp : RdR w a n c p) (hs : p.length + tot p ≤ 1048576) :
    Calls Try.prog 29 #[.slice a n c] w fun e w' => e = .returned (.bool (pb (GrbOk p))) ∧ Ext w w' := by
  have Hl := Lib.hid hp.len
  go_enter Try.func29, Try.ntmps29
  go_wp2_with fail
  refine (l06Ok_any _ _ _ p _ hp).mono ?_
  rintro e w2 ⟨rfl, hE⟩
  rcases pbc (SqOk p) with ⟨hb, Hp⟩ | ⟨hb, Hp⟩
  · rw [hb]
    have HD := Lib.hid (Hp.out.rd Hl.out)
    go_wp2_with fail
    refine (specRdc _ _ _ p _ (hp.ext hE) hs).mono ?_
    rintro e w3 ⟨a3, n3, c3, rs, rfl, hO, hE3⟩
    rw [rdcM, if_pos hb, ← Hl.out] at hO
    obtain rfl : n = n3 := by have := hO.len; rw [HD.out.top.1.1] at this; exact this.symm
    go_wp2_with fail
    refine (l08Associative_any _ n _ (rdT p n) _ hO.rd HD.out.top).mono ?_
    rintro e w4 ⟨rfl, hE4⟩
    go_wp2
    go_ret
    exact ⟨ret_bool (pb_congr ⟨fun h => ⟨Hp.out, by rw [← Hl.out]; exact h⟩, fun h => by rw [Hl.out]; exact h.2⟩), (hE.trans hE3).trans hE4⟩
  · rw [hb]
    go_wp2
    go_ret
    exact ⟨ret_npb (fun h => Hp.out h.1), hE⟩

set_option maxHeartbeats 800000 in
theorem implGrb (a : Option Addr) (n c : Nat) (p : List (List Int)) (w : World) (hp : RdR w a n c p) (hs : p.length + tot p ≤ 1048576) :
    Calls Try.prog 30 #[.slice a n c] w fun e w' => e = .returned (.bool (pb (GrbOk p))) ∧ Ext w w' := by
  have Hl := Lib.hid hp.len
  go_enter Try.func30, Try.ntmps30
  go_wp2_with fail
  refine (implRdc _ _ _ p _ hp hs).mono ?_
  rintro e w3 ⟨a3, n3, c3, rs, rfl, hO, hE3⟩
  rcases pbc (SqOk p) with ⟨hb, Hp⟩ | ⟨hb, Hp⟩
  · have HD := Lib.hid (Hp.out.rd Hl.out)
    rw [rdcM, if_pos hb, ← Hl.out] at hO
    rw [rdcC, if_pos hb]
    obtain rfl : n = n3 := by have := hO.len; rw [HD.out.top.1.1] at this; exact this.symm
    go_wp2_with fail
    refine (associative_any _ n _ (rdT p n) _ hO.rd HD.out.top).mono ?_
    rintro e w4 ⟨rfl, hE4⟩
    go_wp2
    go_ret
    exact ⟨ret_bool (pb_congr ⟨fun h => ⟨Hp.out, by rw [← Hl.out]; exact h⟩, fun h => by rw [Hl.out]; exact h.2⟩), hE3.trans hE4⟩
  · rw [rdcC, hb, if_neg (by decide)]
    go_wp2
    go_ret
    exact ⟨ret_npb (fun h => Hp.out h.1), hE3⟩
end Go.Proofs.Ytkapkieeafhaoaa
