/- Digits in decimal, by both; strings as lists of bytes. Conditions: none. -/
import Derived.Test.YtnimmkfkijcbbaaDoorStx
import Derived.Test.YtnimmkfkijcbbaaDoorApp
import Derived.Test.YtnimmkfkijcbbaaDoorShl
import Derived.Laws.BytesString
import Derived.Laws.Concat
namespace Go.Proofs.YtnimmkfkijcbbaaDoor
open Go.RowKit

/-- A string by its bytes. -/
def bs (l : List UInt8) : ByteArray := ⟨l.toArray⟩
theorem bs_size (l : List UInt8) : (bs l).size = l.length := by simp [bs, ByteArray.size]
theorem bs_append (l m : List UInt8) : bs l ++ bs m = bs (l ++ m) := by
  apply ByteArray.ext
  simp [bs]
theorem info_u8d : (Tryd.prog.info? 5).map (fun i => (i.zero, i.size, i.bytes)) = some (some (.int .u8 0), 1, 1) := by kernel_rfl
theorem dgB_nat {v : Nat} (h : v ≤ 9) : (dgB (v : Int)).toNat = 48 + v := by
  rw [dgB, Int.toNat_natCast]
  simp only [UInt8.toNat_ofNat']
  omega
/-- One byte as a string. -/
theorem conv_one (w : World) (g c : Nat) (x : UInt8) (hc : w.cell? ⟨g, 0, none⟩ = some (.int .u8 x.toNat)) : (convert 42 9 (.slice (some ⟨g, 0, none⟩) 1 c)).run Tryd.prog w = .ok (.string (bs [x])) w := by
  have h9 := run_convert_bytes_back (P := Tryd.prog) w 42 9 5 ⟨g, 0, none⟩ c [x] Tryd.underlying42 Tryd.underlying5 Tryd.underlying9 (fun j hj => by
    obtain rfl : j = 0 := by simp at hj; omega
    have e : (⟨g, 0, none⟩ : Addr).add 0 = ⟨g, 0, none⟩ := by unfold Addr.add; split <;> simp_all
    rw [e, hc]; rfl)
  exact h9

abbrev OwnU (w : World) (B : Nat) (a : Option Addr) (n c : Nat) (xs : List Int) : Prop := Own 5 (Value.int .u8) w B a n c xs
/-- 'append([]byte{v}, x...)' where x is empty. -/
theorem app_u8d {ops : Array Oper} {rest : List Oper} {o : Oper} {a : Act} {Q : Exit → Act → World → Prop} (hgd : o.guard = none) (s x : Operand)
    (ho : o.op = .call { callee := .builtin .append, args := #[s, x], argTypes := #[42, 42] })
    {w : World} {v : Int} {xa : Addr} {d bk : Nat} (hbk : w.heap.size = bk) (hs : a.eval s = .slice (some ⟨bk, 0, none⟩) 1 1) (hx : a.eval x = .slice (some xa) 0 d)
    (h : ∀ g' c' w', OwnU w' w.heap.size (some ⟨g', 0, none⟩) 1 c' [v] → Ext w w' → wpList Tryd.prog ops Q rest (a.put o.dst (.slice (some ⟨g', 0, none⟩) 1 c')) w') :
    wpList Tryd.prog ops Q (o :: rest) a (w.alloc (.cells #[.int .u8 v] 5)) := by
  subst hbk
  have hO : OwnU (w.alloc (.cells #[.int .u8 v] 5)) w.heap.size (some ⟨w.heap.size, 0, none⟩) 1 1 [v] := Own.mk_ (cur := #[.int .u8 v]) rfl (Nat.le_refl _) (by show (w.heap.push _)[w.heap.size]? = _; simp) (by omega) (by decide) rfl rfl
  refine wpList_app (w := w.alloc (.cells #[.int .u8 v] 5)) Tryd.underlying42 info_u8d rfl (by decide) hgd s x ho hO (by simp) [] rfl (fun j u hj => by simp at hj) (fun u hu => by simp at hu) (by decide) hs hx ?_
  intro ad' c' w' h1 h2 h3
  obtain ⟨g', _, rfl, _⟩ := h1.at_ (k := 0) (by omega)
  exact h g' c' w' h1 (((Ext.refl w).alloc _).only h2 (fun b hb => by unfold onlyA at hb; cases hb; exact Nat.le_refl _))

set_option maxRecDepth 100000 in
set_option maxHeartbeats 1600000 in
theorem l01Dec_any (v : Nat) (hv : v ≤ 9) (w : World) : Calls Tryd.prog 22 #[.int .i64 v] w fun e w' => e = .returned (.string (bs [dgB v])) ∧ Ext w w' := by
  have H0 := Own.empty 5 (Value.int .u8) w
  have HV := Lib.hid hv
  go_enter Tryd.func22, Tryd.ntmps22
  go_wp2
  go_loopg [3, 4] 2 (fun gh sv kv wr => ∃ (k m g c : Nat) (ys : List Int), sv = .slice (some ⟨g, 0, none⟩) m c ∧ kv = .int .i64 k ∧ k ≤ 9 ∧ m ≤ 1 ∧ OwnU wr w.heap.size (some ⟨g, 0, none⟩) m c ys ∧ ((gh = 2 ∧ k = v ∧ m = 0) ∨ (gh = 1 ∧ k = 0 ∧ m = 1 ∧ Hid (ys = [48 + (v : Int)]))) ∧ Ext w wr)
  case atStart => exact ⟨v, 0, _, 0, [], rfl, rfl, hv, by omega, H0, .inl ⟨rfl, rfl, rfl⟩, (Ext.refl _).alloc _⟩
  case round =>
    clear H0
    obtain ⟨k, m, g, c, ys, rfl, rfl, hk, hm, hO, hcs, hE⟩ := hrel
    by_cases hk0 : k = 0
    · subst hk0
      have hb : (((0 : Nat) : Int) != 0) = false := rfl
      have hvz : ¬ ((v : Int) < 0) := by omega
      have hvb : decide ((v : Int) < 0) = false := decide_eq_false hvz
      rcases hcs with ⟨rfl, h1, rfl⟩ | ⟨rfl, -, rfl, HY⟩
      · have hS : Hid (bs [48] = bs [dgB (v : Int)]) := Lib.hid (by rw [← h1]; rfl)
        have hb2 : (((0 : Nat) : Int) == 0) = true := rfl
        have hE2 := hE
        clear h1
        go_wp2
        go_ret
        exact ⟨by rw [← hS.out]; rfl, hE2⟩
      · have hb2 : (((1 : Nat) : Int) == 0) = false := rfl
        obtain ⟨g', x, hg, _, hc, _, hx⟩ := hO.at_ (k := 0) (by omega)
        cases hg
        have hxv : x = 48 + (v : Int) := by
          have := hx.out
          rw [HY.out] at this
          simp at this
          exact this.symm
        subst hxv
        have hcv := conv_one wr g c (dgB (v : Int)) (by rw [hc, dgB_nat hv]; rfl)
        clear hO hx hc
        go_wp2
        go_ret
        exact ⟨rfl, hE⟩
    · have hkz : ((k : Int) != 0) = true := by simp; omega
      rcases hcs with ⟨rfl, rfl, rfl⟩ | ⟨_, h2, _⟩
      · have hmod : (k : Int) % 10 = (k : Int) := by omega
        have hdiv : (k : Int) / 10 = ((0 : Nat) : Int) := by omega
        have hneg : decide ((k : Int) < 0) = false := decide_eq_false (by omega)
        have hneg' : ¬ ((k : Int) < 0) := by omega
        have hw8 : IntKind.u8.wrap ((48 : Int) + (k : Int)) = 48 + (k : Int) := by simp [IntKind.wrap, IntKind.bits, IntKind.signed]; omega
        have hys : ys = [] := List.eq_nil_of_length_eq_zero (by have := hO.len; omega)
        subst hys
        clear hO
        go_wp2_with (at_builtin; refine app_u8d rfl _ _ rfl rfl rfl rfl ?_; intro g' c' w3 hO3 hE3)
        go_roundg 1
        case measure => go_light; omega
        case rel =>
          go_light
          exact ⟨0, 1, g', c', [48 + (k : Int)], rfl, rfl, by omega, by omega, hO3.base hE.size, .inr ⟨rfl, rfl, rfl, Lib.hid rfl⟩, hE.trans hE3⟩
      · exact absurd h2 hk0
end Go.Proofs.YtnimmkfkijcbbaaDoor
