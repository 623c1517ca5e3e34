/- The kinds of identities, in plain words. Conditions: none. -/
import Derived.Test.YtkapkieeafhaoaaAss
import Derived.Test.YtkapkieeafhaoaaUnitP
import Derived.Test.YtkapkieeafhaoaaSqP
namespace Go.Proofs.Ytkapkieeafhaoaa
open Go.RowKit

def idm (p : List (List Int)) (x : Nat) : Bool := at2 p x x == (x : Int)
def unp (p : List (List Int)) (x : Nat) : Bool := at2 p x x == at2 p 0 0
def cmm (p : List (List Int)) (x y : Nat) : Bool := at2 p x y == at2 p y x
def sem (p : List (List Int)) (x y : Nat) : Bool := at2 p x (at2 p y x).toNat == (y : Int)

def KindOk (p : List (List Int)) (n : Nat) : Nat → Prop
  | 1 => AllN n (idm p)
  | 2 => AllN n (unp p)
  | 3 => All2 n (cmm p)
  | 4 => ∃ e, e < n ∧ LUnit p e
  | 5 => ∃ e, e < n ∧ RUnit p e
  | 6 => Assoc p n
  | 7 => All2 n (sem p)
  | _ => All2 n (cmm p) ∧ All2 n (sem p)

/-- The first k kinds, those that hold. -/
noncomputable def idsTo (p : List (List Int)) (n : Nat) : Nat → List Int
  | 0 => []
  | k + 1 => if pb (KindOk p n (k + 1)) then idsTo p n k ++ [(k : Int) + 1] else idsTo p n k
theorem idsTo_len (p : List (List Int)) (n k : Nat) : (idsTo p n k).length ≤ k := by
  induction k with
  | zero => simp [idsTo]
  | succ k ih =>
    rw [idsTo]
    split
    · simp; exact ih
    · omega

noncomputable def idsM (p : List (List Int)) : List Int := if pb (SqOk p) then idsTo p p.length 8 else []
noncomputable def idsC (p : List (List Int)) : Int := if pb (SqOk p) then 0 else 1
theorem idsM_len (p : List (List Int)) : (idsM p).length ≤ 1048576 := by
  rw [idsM]
  split
  · have := idsTo_len p p.length 8; omega
  · simp
end Go.Proofs.Ytkapkieeafhaoaa
