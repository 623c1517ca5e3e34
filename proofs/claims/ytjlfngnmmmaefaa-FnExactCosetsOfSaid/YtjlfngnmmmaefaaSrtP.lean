/- Sorted lists of lists, in plain words. Conditions: none. -/
import Derived.Test.YtjlfngnmmmaefaaCmpP
namespace Go.Proofs.Ytjlfngnmmmaefaa

def SortedLL (xss : List (List Int)) : Prop := xss.Pairwise fun x y => leL x y

/-- The sorted list of some lists. -/
noncomputable def srtL (xss : List (List Int)) : List (List Int) := xss.mergeSort fun x y => pb (leL x y)
theorem srtL_perm (xss : List (List Int)) : (srtL xss).Perm xss := List.mergeSort_perm _ _
theorem srtL_sorted (xss : List (List Int)) : SortedLL (srtL xss) := by
  have h := List.pairwise_mergeSort (le := fun x y => pb (leL x y)) (fun a b c h1 h2 => pb_true (leL_trans (pb_iff.1 h1) (pb_iff.1 h2))) (fun a b => by
    rcases leL_total a b with h | h
    · rw [pb_true h]; rfl
    · rw [pb_true h, Bool.or_true]) xss
  exact h.imp fun h => pb_iff.1 h
theorem sorted_unique {xss yss : List (List Int)} (hp : xss.Perm yss) (h1 : SortedLL xss) (h2 : SortedLL yss) : xss = yss :=
  List.Perm.eq_of_pairwise (fun _ _ _ _ h3 h4 => leL_antisymm h3 h4) h1 h2 hp
theorem srtL_of {xss yss : List (List Int)} (hp : xss.Perm yss) (h : SortedLL xss) : xss = srtL yss := sorted_unique (hp.trans (srtL_perm yss).symm) h (srtL_sorted yss)
theorem srtL_length (xss : List (List Int)) : (srtL xss).length = xss.length := (srtL_perm xss).length_eq

end Go.Proofs.Ytjlfngnmmmaefaa
