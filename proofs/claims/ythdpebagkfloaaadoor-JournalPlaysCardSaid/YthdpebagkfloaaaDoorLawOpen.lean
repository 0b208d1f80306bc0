/- Rows: arguments that are slices of bytes, slices of those, taken into the logic: all cells of the first world stay. -/
import Derived.Test.YthdpebagkfloaaaDoorPAD
import Derived.WalkKit
import Derived.ProofKit
import Derived.Handy
import Derived.Lay
import Derived.Carry
import Derived.Deep.Slices
namespace Go.Proofs.YthdpebagkfloaaaDoor
open Go Go.ChangeShapes Go.WideShapes Go.ChangeAt Go.RowKit SL
set_option linter.unusedVariables false
set_option linter.unusedSimpArgs false
def allI (W : World) : IM := fun b o => W.cell? ⟨b, o, none⟩
theorem sim_all (W : World) : Sim W (allI W) (fun _ => none) W := ⟨Below.refl _ _, (fun b o v e => e), (fun b x e => by cases e), (fun b x e => by cases e)⟩
theorem spot_of_cell {W : World} {a : Addr} {v : Value} (h : W.cell? a = some v) : a.spot = none := by
  unfold World.cell? at h
  split at h
  · split at h
    · cases h
    · rename_i hs; simpa using hs
  · cases h
theorem cell_add {W : World} {a : Addr} {i : Nat} {v : Value} (h : W.cell? (a.add i) = some v) (hs : a.spot = none) : allI W a.block (a.off + i) = some v := by
  have e : a.add i = ⟨a.block, a.off + i, none⟩ := by
    unfold Addr.add
    by_cases hi : i = 0
    · rw [if_pos hi, hi]; cases a; simp at hs; simp [hs]
    · rw [if_neg hi]
  rw [e] at h; exact h
theorem add_zero (a : Addr) : a.add 0 = a := by simp [Addr.add]
section
variable {H : Type} {enc : TypeId × Value → H} {W : World}
theorem open_bytes {fuel : Nat} {v : Value} {x : DataW H × List MemPlace} (h : DataW.trod enc Tryd.prog W 0 (fun _ => true) true fuel 31 [v] = some x) : ∃ l, BySl (allI W) v l := by
  rcases open_ints und_sl_uint8 und_uint8 (by kernel_rfl) h with ⟨hcs, _⟩ | ⟨a, len, cap, zs, hcs, _, hl, hm, hz, _, hcell, hwz⟩
  · obtain rfl : v = .slice none 0 0 := by simpa using hcs
    exact ⟨[], BySl.nil _⟩
  · obtain rfl : v = .slice (some a) len cap := by simpa using hcs
    have hz' : zs.length = cap := by simpa using hz
    by_cases hc : cap = 0
    · have hl0 : len = 0 := by omega
      subst hc; subst hl0
      exact ⟨[], .inl ⟨⟨_, rfl⟩, rfl, rfl⟩⟩
    · have h0 := hcell 0 (by omega)
      rw [add_zero] at h0
      have hs := spot_of_cell h0
      refine ⟨(zs.take len).map (fun z => UInt8.ofNat z.toNat), ?_⟩
      have hlen : ((zs.take len).map (fun z => UInt8.ofNat z.toNat)).length = len := by simp; omega
      unfold BySl
      rw [hlen]
      refine .inr ⟨a.block, a.off, cap, ?_, hl, by simp; omega, fun i u e => ?_⟩
      · cases a; simp at hs; simp [hs]
      · have hi : i < len := by have := (List.getElem?_eq_some_iff.1 e).1; simp at this; omega
        have hzi : zs.getD i 0 = zs[i] := by simp [List.getD, List.getElem?_eq_getElem (show i < zs.length by omega)]
        have hw := hwz zs[i] (List.getElem_mem (by omega))
        have hb : 0 ≤ zs[i] ∧ zs[i] ≤ 255 := by simpa [Lit.wf, IntKind.min, IntKind.max, IntKind.signed, IntKind.bits] using hw
        have hc := cell_add (hcell i (by omega)) hs
        rw [hzi] at hc
        rw [hc]
        rw [List.map_map, List.getElem?_map, List.getElem?_take_of_lt hi, List.getElem?_eq_getElem (show i < zs.length by omega)] at e
        simp only [Option.map_some, Function.comp, Option.some.injEq] at e
        rw [← e, bv]
        have : ((UInt8.ofNat zs[i].toNat).toNat : Int) = zs[i] := by
          rw [UInt8.toNat_ofNat_of_lt' (by simp [UInt8.size]; omega)]; omega
        rw [this]
theorem open_rows {fuel : Nat} {v : Value} {x : DataW H × List MemPlace} (h : DataW.trod enc Tryd.prog W 0 (fun _ => true) true fuel 32 [v] = some x) : ∃ ls, ByRows (allI W) v ls := by
  rcases Deep.open_slice1 und_sl_sl_uint8 (by kernel_rfl) h with ⟨hcs, _⟩ | ⟨a, len, cap, m, n, V, D, Pl, hcs, _, hl, hm, hmm, _, hx⟩
  · obtain rfl : v = .slice none 0 0 := by simpa using hcs
    exact ⟨[], ByRows.nil _⟩
  · obtain rfl : v = .slice (some a) len cap := by simpa using hcs
    have hm' : m = cap := by simpa using hmm
    by_cases hc : cap = 0
    · have hl0 : len = 0 := by omega
      subst hc; subst hl0
      exact ⟨[], [], .inl ⟨⟨_, rfl⟩, rfl, rfl⟩, fun i l e => by simp at e⟩
    · have h0 := (hx 0 (by omega)).1
      rw [add_zero] at h0
      have hs := spot_of_cell h0
      obtain ⟨L, hL⟩ := Deep.choose_lt (α := List UInt8) (n := len) (p := fun i l => BySl (allI W) (V i) l) (fun i hi => open_bytes (hx i (by omega)).2)
      refine ⟨(List.range len).map L, (List.range len).map V, ?_, fun i l e => ?_⟩
      · rw [List.length_map, List.length_range]
        refine .inr ⟨a.block, a.off, cap, ?_, hl, by simp, fun i u e => ?_⟩
        · cases a; simp at hs; simp [hs]
        · have hi : i < len := by have := (List.getElem?_eq_some_iff.1 e).1; simpa using this
          rw [List.getElem?_map, List.getElem?_range hi] at e
          cases e
          exact cell_add (hx i (by omega)).1 hs
      · have hi : i < len := by have := (List.getElem?_eq_some_iff.1 e).1; simpa using this
        rw [List.getElem?_map, List.getElem?_range hi] at e
        cases e
        exact ⟨V i, by rw [List.getElem?_map, List.getElem?_range hi]; rfl, hL i hi⟩
end
end Go.Proofs.YthdpebagkfloaaaDoor
