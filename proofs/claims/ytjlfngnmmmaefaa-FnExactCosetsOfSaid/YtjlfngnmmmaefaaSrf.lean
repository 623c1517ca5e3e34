/- slices.SortFunc by slices.Compare on rows that are owned. Conditions: none. -/
import Derived.Test.YtjlfngnmmmaefaaSortF
import Derived.Test.YtjlfngnmmmaefaaPutR
import Derived.Test.YtjlfngnmmmaefaaCmp
import Derived.Test.YtjlfngnmmmaefaaSrtP
namespace Go.Proofs.Ytjlfngnmmmaefaa
open Go.RowKit Go.Sort Go.Shelf

/-- A row with its list, as it stands in a world, outside a block. -/
def RowIn (w : World) (g : Nat) : Type := { x : Row × List Int // RdI w x.1.1 x.1.2.1 x.1.2.2 x.2 ∧ blk x.1.1 ≠ some g }
theorem rdI_nil (w : World) : RdI w none 0 0 [] := (Own.nil_ 2 (Value.int .i64) w 0).rdI
instance (w : World) (g : Nat) : Inhabited (RowIn w g) := ⟨⟨((none, 0, 0), []), rdI_nil w, by intro h; cases h⟩⟩
def RowIn.row {w : World} {g : Nat} (x : RowIn w g) : Row := x.1.1
def RowIn.list {w : World} {g : Nat} (x : RowIn w g) : List Int := x.1.2
def encR {w : World} {g : Nat} (x : RowIn w g) : Value := Row.val x.row
def cfR {w : World} {g : Nat} (x y : RowIn w g) : Int := cmpL x.list y.list

theorem swoR {w : World} {g : Nat} : SWO (ltOf (cfR (w := w) (g := g))) where
  irrefl x := by unfold ltOf cfR; rw [cmpL_self]; rfl
  trans x y z h1 h2 := by
    unfold ltOf cfR at *
    have k1 : cmpL x.list y.list < 0 := of_decide_eq_true h1
    have k2 : cmpL y.list z.list < 0 := of_decide_eq_true h2
    exact decide_eq_true (show cmpL x.list z.list < 0 from ltL_trans k1 k2)
  ntrans x y z h1 h2 := by
    unfold ltOf cfR at *
    have h3 := of_decide_eq_false h1
    have h4 := of_decide_eq_false h2
    refine decide_eq_false ?_
    have e1 := cmpL_neg x.list y.list
    have e2 := cmpL_neg y.list z.list
    have e3 := cmpL_neg x.list z.list
    have := leL_trans (xs := z.list) (ys := y.list) (zs := x.list) (by unfold leL; omega) (by unfold leL; omega)
    unfold leL at this
    omega

theorem cell_other {w w' : World} {p : Addr} (h : w'.heap[p.block]? = w.heap[p.block]?) : w'.cell? p = w.cell? p := by simp [World.cell?, h]
theorem sortWorld_other {α : Type} [Inhabited α] (f : α → Value) (w : World) (g m : Nat) (dk : Array α) (os : Array Obj) (p : Addr) (h1 : p.block ≠ g) (h2 : p.block < w.heap.size) : (sortWorld f w g 0 m dk os).cell? p = w.cell? p := by
  refine cell_other ?_
  have hne : ¬ g = p.block := fun e => h1 e.symm
  unfold sortWorld
  rw [heap_grow_old _ _ (by simpa [putRow, mapBlock, Sort.ahead] using h2)]
  simp [putRow, mapBlock, Sort.ahead, Array.getElem?_modify, hne]

theorem RdI.other {w w' : World} {a : Option Addr} {n c g : Nat} {xs : List Int} (h : RdI w a n c xs) (hg : blk a ≠ some g) (hk : ∀ p : Addr, p.block ≠ g → p.block < w.heap.size → w'.cell? p = w.cell? p) : RdI w' a n c xs := by
  refine ⟨h.len, h.le, h.max, h.nil, fun k x hx => ?_⟩
  obtain ⟨b, o, v, rfl, h2, h3⟩ := h.get k x hx
  refine ⟨b, o, v, rfl, ?_, h3⟩
  rw [hk _ (fun e => hg (by rw [← e]; rfl)) (World.block_lt_of_cell? _ _ h2)]
  exact h2

theorem cmpReadsR (w : World) (g size : Nat) : CmpReads Try.prog 67 #[] (encR (w := w) (g := g)) cfR g 0 size w := fun m os dk _ x y => by
  have k : ∀ p : Addr, p.block ≠ g → p.block < w.heap.size → (sortWorld encR w g 0 m dk os).cell? p = w.cell? p := fun p h1 h2 => sortWorld_other encR w g m dk os p h1 h2
  refine (slCompare_any x.1.1.1 y.1.1.1 x.1.1.2.1 x.1.1.2.2 y.1.1.2.1 y.1.1.2.2 x.list y.list _ (RdI.other x.2.1 x.2.2 k) (RdI.other y.2.1 y.2.2 k)).mono ?_
  rintro e w' ⟨rfl, rfl⟩
  exact ⟨rfl, 0, rfl⟩

theorem pairwise_of_sep {rs : List Row} : (∀ (i j : Nat) (r r' : Row), i < j → rs[i]? = some r → rs[j]? = some r' → ∀ g, blk r.1 = some g → blk r'.1 ≠ some g) ↔ rs.Pairwise fun r r' => ∀ g, blk r.1 = some g → blk r'.1 ≠ some g := by
  rw [List.pairwise_iff_getElem]
  constructor
  · intro h i j hi hj hij g
    exact h i j _ _ hij (List.getElem?_eq_getElem hi) (List.getElem?_eq_getElem hj) g
  · intro h i j r r' hij h1 h2 g
    obtain ⟨hi, rfl⟩ := List.getElem?_eq_some_iff.1 h1
    obtain ⟨hj, rfl⟩ := List.getElem?_eq_some_iff.1 h2
    exact h i j hi hj hij g

theorem permIn_all {α : Type} [Inhabited α] {d d' : Array α} (h : PermIn 0 d.size d d') : d'.toList.Perm d.toList := by
  have h3 := h.2.2
  rw [Array.extract_eq_self_of_le (by rw [h.1]; exact Nat.le_refl _), Array.extract_eq_self_of_le (Nat.le_refl _)] at h3
  exact h3

/-- The rows of an owned list with their lists. -/
theorem rowsIn {w : World} {B g n c : Nat} {xss : List (List Int)} {rs : List Row} (hO : OwnR w B (some ⟨g, 0, none⟩) n c xss rs) :
    ∃ L : List (RowIn w g), L.map RowIn.row = rs ∧ L.map RowIn.list = xss := by
  have hl := hO.rlen
  have key : ∀ i : Fin rs.length, RdI w (rs[i.1]).1 (rs[i.1]).2.1 (rs[i.1]).2.2 (xss[i.1]'(by rw [← hl]; exact i.2)) ∧ blk (rs[i.1]).1 ≠ some g := fun i =>
    ⟨(hO.row i.1 _ _ (List.getElem?_eq_getElem i.2) (List.getElem?_eq_getElem _)).rdI, fun e => hO.apart _ (List.getElem_mem i.2) g e rfl⟩
  refine ⟨List.ofFn fun i : Fin rs.length => (⟨(rs[i.1], xss[i.1]'(by rw [← hl]; exact i.2)), key i⟩ : RowIn w g), ?_, ?_⟩
  · apply List.ext_getElem
    · rw [List.length_map]; exact List.length_ofFn
    · intro i h1 h2
      rw [List.getElem_map]
      exact congrArg RowIn.row (List.getElem_ofFn _)
  · apply List.ext_getElem
    · rw [List.length_map]; exact List.length_ofFn.trans hl
    · intro i h1 h2
      rw [List.getElem_map]
      exact congrArg RowIn.list (List.getElem_ofFn _)

/-- slices.SortFunc(rows, slices.Compare). -/
theorem slSortFunc_any {w : World} {B n c : Nat} {a : Option Addr} {xss : List (List Int)} {rs : List Row} (hO : OwnR w B a n c xss rs) (hn : n ≤ 1099511627776) :
    Calls Try.prog 96 #[.slice a n c, .func (.func 67) #[] #[]] w fun e w' => e = .returned (.tuple #[]) ∧ (∃ rs', OwnR w' B a n c (srtL xss) rs' ∧ ∀ r, r ∈ rs' ↔ r ∈ rs) ∧ Only (onlyA a) w w' := by
  have hl := hO.rlen
  have hl2 := hO.len
  rcases hO.top.cases with ⟨rfl, rfl, rfl, rfl⟩ | ⟨g, cur, rfl, h2, h3, h4, h5, h6, h7⟩
  · refine (AnyF.slices_SortFunc_none { Try.sortF with } none 0 _ w).mono ?_
    rintro e w' ⟨rfl, rfl⟩
    have hx : xss = [] := List.eq_nil_of_length_eq_zero (by rw [← hl]; rfl)
    subst hx
    exact ⟨rfl, ⟨[], by rw [srtL, List.mergeSort_nil]; exact hO, fun _ => Iff.rfl⟩, Only.refl _ _⟩
  · obtain ⟨L, hL1, hL2⟩ := rowsIn hO
    have hLl : L.length = n := by rw [hl2, ← hL2, List.length_map]
    have hown : Own 26 (encR (w := w) (g := g)) w B (some ⟨g, 0, none⟩) n c L := by
      have h := hO.top
      refine ⟨hLl.symm, ?_⟩
      have e : L.map encR = rs.map Row.val := by rw [← hL1, List.map_map]; rfl
      rw [e]
      exact h.row
    have hsz : (L.toArray).size = n := by simp [hLl]
    have hcall := Any.slices_SortFunc Try.sortF (encR (w := w) (g := g)) (fun _ => rfl) cfR swoR 67 #[] g 0 c L.toArray w (enters_of Try.func67 (by kernel_rfl) rfl) (cmpReadsR w g _).lays (own_holds' hown) (Array.getElem?_eq_some_iff.1 h3).1 (by rw [hsz]; omega)
    rw [hsz] at hcall
    refine hcall.mono ?_
    rintro e w' ⟨rfl, d', m, os, hperm, hsort, rfl⟩
    rw [← hsz] at hperm hsort
    have hp := permIn_all hperm
    have hd : d' = d'.toList.toArray := by simp
    have hput := own_put hown (ys := d'.toList) (by rw [hp.length_eq]; simpa using hLl) m os
    have hp2 : d'.toList.Perm L := by simpa using hp
    refine ⟨rfl, ⟨d'.toList.map RowIn.row, ?_, fun r => ?_⟩, hput.2⟩
    · have hxs : d'.toList.map RowIn.list = srtL xss := by
        refine srtL_of (by rw [← hL2]; exact hp2.map _) ?_
        unfold SortedLL
        rw [List.pairwise_map, List.pairwise_iff_getElem]
        intro i j hi hj hij
        have h8 := hsort i j (Nat.zero_le _) hij (by rw [← hperm.1]; simpa using hj)
        have hi' : i < d'.size := by simpa using hi
        have hj' : j < d'.size := by simpa using hj
        rw [getElem!_pos d' i hi', getElem!_pos d' j hj'] at h8
        unfold ltOf cfR at h8
        have h9 := of_decide_eq_false h8
        have h10 := cmpL_neg (d'[i]).list (d'[j]).list
        show leL (d'.toList[i]).list (d'.toList[j]).list
        unfold leL
        simp only [Array.getElem_toList]
        omega
      rw [← hxs]
      have htop : Own 26 Row.val (grow (putRow encR (Sort.ahead w m) g 0 d') os) B (some ⟨g, 0, none⟩) n c (d'.toList.map RowIn.row) := by
        have h := hput.1
        refine ⟨by rw [List.length_map, hp.length_eq]; simpa using hLl.symm, ?_⟩
        have e : (d'.toList.map RowIn.row).map Row.val = d'.toList.map encR := by rw [List.map_map]; rfl
        rw [e]
        have h9 := h.row
        rwa [← hd] at h9
      have honly : Only (onlyA (some ⟨g, 0, none⟩)) w (grow (putRow encR (Sort.ahead w m) g 0 d') os) := by have h := hput.2; rwa [← hd] at h
      have mem : ∀ x : RowIn w g, x ∈ d'.toList → ∃ j, rs[j]? = some x.row ∧ xss[j]? = some x.list := fun x hx => by
        obtain ⟨j, hj⟩ := List.mem_iff_getElem?.1 (hp2.mem_iff.1 hx)
        exact ⟨j, by rw [← hL1, List.getElem?_map, hj]; rfl, by rw [← hL2, List.getElem?_map, hj]; rfl⟩
      refine ⟨htop, by simp [hp.length_eq, hLl, hperm.1], fun i r xs hr hx => ?_, fun r hr g' hg' => ?_, pairwise_of_sep.2 ?_⟩
      · rw [List.getElem?_map] at hr hx
        obtain ⟨x, hx1, rfl⟩ := Option.map_eq_some_iff.1 hr
        rw [hx1] at hx
        cases hx
        obtain ⟨j, k1, k2⟩ := mem x (List.mem_of_getElem? hx1)
        exact (hO.row j _ _ k1 k2).only honly (fun g2 hg2 e => hO.apart _ (List.mem_of_getElem? k1) g2 hg2 e)
      · obtain ⟨x, hx1, rfl⟩ := List.mem_map.1 hr
        obtain ⟨j, k1, k2⟩ := mem x hx1
        exact hO.apart _ (List.mem_of_getElem? k1) g' hg'
      · have hs := pairwise_of_sep.1 hO.sep
        rw [← hL1] at hs
        exact ((hp2.map RowIn.row).pairwise_iff (fun {r r'} h g' h1 h2 => h g' h2 h1)).2 hs
    · rw [← hL1]
      exact (hp2.map RowIn.row).mem_iff
end Go.Proofs.Ytjlfngnmmmaefaa
