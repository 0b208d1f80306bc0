/- Rows: a slice of acts taken into the logic. -/
import Derived.Test.YthdpebagkfloaaaDoorPAE
import Derived.Test.YthdpebagkfloaaaDoorLawOpen
namespace Go.Proofs.YthdpebagkfloaaaDoor
open Go Go.ChangeShapes Go.WideShapes Go.ChangeAt Go.RowKit SL
set_option linter.unusedVariables false
set_option linter.unusedSimpArgs false
set_option maxRecDepth 100000
section
variable {H : Type} {enc : TypeId × Value → H} {W : World}
theorem add_assoc' (a : Addr) (i j : Nat) (hs : a.spot = none) : (a.add i).add j = ⟨a.block, a.off + i + j, none⟩ := by
  unfold Addr.add
  cases a
  simp at hs
  subst hs
  by_cases hi : i = 0 <;> by_cases hj : j = 0 <;> simp [hi, hj]
theorem open_act {fuel : Nat} {cs : List Value} {x : DataW H × List MemPlace} (h : DataW.trod enc Tryd.prog W 0 (fun _ => true) true fuel 42 cs = some x) :
    ∃ a u w, cs = [Value.int .i64 a.op, .int .i64 a.n, .int .u64 (a.mask : Int), u, w] ∧ BySl (allI W) u a.b ∧ ByRows (allI W) w a.l ∧ ActOk a := by
  obtain ⟨xs, n, _, _, hl, hlen, hf⟩ := DataW.trod_struct Tryd.underlying42 h
  have h5 : Tryd.prog.cellsOf 42 = 5 := by kernel_rfl
  have c3 : Tryd.prog.cellsOf 3 = 1 := by kernel_rfl
  have c37 : Tryd.prog.cellsOf 37 = 1 := by kernel_rfl
  have c31 : Tryd.prog.cellsOf 31 = 1 := by kernel_rfl
  have c32 : Tryd.prog.cellsOf 32 = 1 := by kernel_rfl
  rw [h5] at hl
  match cs, hl with
  | [v0, v1, v2, v3, v4], _ =>
    match xs, hlen with
    | [y0, y1, y2, y3, y4], _ =>
      have f0 : DataW.trod enc Tryd.prog W 0 (fun _ => true) true n 3 (([v0, v1, v2, v3, v4].drop 0).take (Tryd.prog.cellsOf 3)) = some y0 := hf 0 _ rfl
      rw [c3] at f0
      replace f0 : DataW.trod enc Tryd.prog W 0 (fun _ => true) true n 3 [v0] = some y0 := f0
      have f1 : DataW.trod enc Tryd.prog W 0 (fun _ => true) true n 3 (([v0, v1, v2, v3, v4].drop 1).take (Tryd.prog.cellsOf 3)) = some y1 := hf 1 _ rfl
      rw [c3] at f1
      replace f1 : DataW.trod enc Tryd.prog W 0 (fun _ => true) true n 3 [v1] = some y1 := f1
      have f2 : DataW.trod enc Tryd.prog W 0 (fun _ => true) true n 37 (([v0, v1, v2, v3, v4].drop 2).take (Tryd.prog.cellsOf 37)) = some y2 := hf 2 _ rfl
      rw [c37] at f2
      replace f2 : DataW.trod enc Tryd.prog W 0 (fun _ => true) true n 37 [v2] = some y2 := f2
      have f3 : DataW.trod enc Tryd.prog W 0 (fun _ => true) true n 31 (([v0, v1, v2, v3, v4].drop 3).take (Tryd.prog.cellsOf 31)) = some y3 := hf 3 _ rfl
      rw [c31] at f3
      replace f3 : DataW.trod enc Tryd.prog W 0 (fun _ => true) true n 31 [v3] = some y3 := f3
      have f4 : DataW.trod enc Tryd.prog W 0 (fun _ => true) true n 32 (([v0, v1, v2, v3, v4].drop 4).take (Tryd.prog.cellsOf 32)) = some y4 := hf 4 _ rfl
      rw [c32] at f4
      replace f4 : DataW.trod enc Tryd.prog W 0 (fun _ => true) true n 32 [v4] = some y4 := f4
      obtain ⟨n0, e0, _, w0⟩ := DataW.trod_int Tryd.underlying3 f0
      obtain ⟨n1, e1, _, w1⟩ := DataW.trod_int Tryd.underlying3 f1
      obtain ⟨n2, e2, _, w2⟩ := DataW.trod_int Tryd.underlying37 f2
      obtain ⟨b, hb⟩ := open_bytes f3
      obtain ⟨l, hl⟩ := open_rows f4
      have b1 : -9223372036854775808 ≤ n1 ∧ n1 ≤ 9223372036854775807 := by simpa [Lit.wf, IntKind.min, IntKind.max, IntKind.signed, IntKind.bits] using w1
      have b2 : 0 ≤ n2 ∧ n2 ≤ 18446744073709551615 := by simpa [Lit.wf, IntKind.min, IntKind.max, IntKind.signed, IntKind.bits] using w2
      refine ⟨⟨n0, n1, n2.toNat, b, l⟩, v3, v4, ?_, hb, hl, by show n2.toNat < _; omega, b1.1, by show n1 < _; omega⟩
      simp only [List.cons.injEq, and_true] at e0 e1 e2
      rw [e0, e1, e2]
      show [Value.int .i64 n0, .int .i64 n1, .int .u64 n2, v3, v4] = [Value.int .i64 n0, .int .i64 n1, .int .u64 ((n2.toNat : Nat) : Int), v3, v4]
      rw [show ((n2.toNat : Nat) : Int) = n2 by omega]
instance : Inhabited ActR := ⟨⟨0, 0, 0, [], []⟩⟩
theorem open_acts {fuel : Nat} {v : Value} {x : DataW H × List MemPlace} (h : DataW.trod enc Tryd.prog W 0 (fun _ => true) true fuel 40 [v] = some x) : ∃ acts, Acts (allI W) v acts := by
  have h5 : Tryd.prog.cellsOf 42 = 5 := by kernel_rfl
  rcases Deep.open_slice und_sl_bandboxlaw14_Act h with ⟨hcs, _⟩ | ⟨a, len, cap, m, n, D, Pl, hcs, _, hl, hm, hmm, _, hx⟩
  · obtain rfl : v = .slice none 0 0 := by simpa using hcs
    exact ⟨[], ⟨_, _, rfl⟩, fun i a e => by simp at e⟩
  · obtain rfl : v = .slice (some a) len cap := by simpa using hcs
    have hm' : m = cap := by simpa using hmm
    obtain ⟨L, hL⟩ := Deep.choose_lt (α := ActR) (n := len) (p := fun i l => ∃ cs' u w, W.cells? 0 (a.add (i * 5)) 5 = some cs' ∧ cs' = [Value.int .i64 l.op, .int .i64 l.n, .int .u64 (l.mask : Int), u, w] ∧ BySl (allI W) u l.b ∧ ByRows (allI W) w l.l ∧ ActOk l) (fun i hi => by
      obtain ⟨cs', k1, k2⟩ := hx i (by omega)
      rw [h5] at k1
      obtain ⟨l, u, w, e, hb, hw, ho⟩ := open_act k2
      exact ⟨l, cs', u, w, k1, e, hb, hw, ho⟩)
    have hlen : ((List.range len).map L).length = len := by simp
    refine ⟨(List.range len).map L, ⟨_, _, by rw [hlen]⟩, fun i l e => ?_⟩
    have hi : i < len := by have := (List.getElem?_eq_some_iff.1 e).1; simpa using this
    rw [List.getElem?_map, List.getElem?_range hi] at e
    simp only [Option.map_some, Option.some.injEq] at e
    subst e
    obtain ⟨cs', u, w, k1, k2, hb, hw, ho⟩ := hL i hi
    obtain ⟨cs0, k10, k20⟩ := hx 0 (by omega)
    have hs : a.spot = none := by
      have := (World.cells?_some k10).2.2 0 (by rw [h5]; omega)
      obtain ⟨x0, xr, e0⟩ : ∃ x0 xr, cs0 = x0 :: xr := by
        have := (World.cells?_some k10).2.1
        rw [h5] at this
        cases cs0 with
        | nil => cases this
        | cons x0 xr => exact ⟨x0, xr, rfl⟩
      rw [e0, Nat.zero_mul, add_zero, add_zero] at this
      exact spot_of_cell this
    rw [hlen]
    refine ⟨a.block, a.off, cap, u, w, ?_, fun k z e => ?_, hb, hw, ho⟩
    · cases a; simp at hs; simp [hs]
    · have hk : k < 5 := by have := (List.getElem?_eq_some_iff.1 e).1; simpa using this
      have := (World.cells?_some k1).2.2 k hk
      rw [k2, e, add_assoc' _ _ _ hs] at this
      exact this
end
end Go.Proofs.YthdpebagkfloaaaDoor
