/- bytes: copies, joined, compared. -/
import Derived.Test.YthdpebagkfloaaaDoorPA
namespace Go.Proofs.YthdpebagkfloaaaDoor
open Go Go.RowKit SL
set_option linter.unusedVariables false
set_option maxRecDepth 100000
set_option linter.unusedSimpArgs false
/-- v is a slice of the bytes l. -/
def BySl (I : IM) (v : Value) (l : List UInt8) : Prop := SlI I v 1 l.length (l.map bv)
def OwnB (I : IM) (ah0 ah : AH) (v : Value) (l : List UInt8) : Prop := Own I ah0 ah v 1 l.length (l.map bv)
theorem BySl.mono {I J : IM} {v : Value} {l : List UInt8} (h : BySl I v l) (hI : IM.le I J) : BySl J v l := SlI.mono h hI
theorem OwnB.sl {I : IM} {ah0 ah : AH} {v : Value} {l : List UInt8} (h : OwnB I ah0 ah v l) : BySl I v l := Own.sl h
theorem BySl.src {I : IM} {v : Value} {l : List UInt8} (h : BySl I v l) (ah : AH) : Src I ah v 1 l.length (l.map bv) := SlI.src h ah
theorem OwnB.of {I : IM} {ah0 ah : AH} {v : Value} {l m : List UInt8} {k : Nat} (h : Own I ah0 ah v 1 k (l.map bv ++ m.map bv)) (hk : k = l.length + m.length) : OwnB I ah0 ah v (l ++ m) := by
  subst hk; unfold OwnB; simpa using h
theorem BySl.piece {I : IM} {a : Option Addr} {n c : Nat} {l : List UInt8} (h : BySl I (.slice a n c) l) (hn : l.length = n) {i j : Nat} (h1 : j ≤ n) (h2 : i ≤ j) :
    BySl I (.slice (if c = i then a else a.map (·.add (i * 1))) (j - i) (c - i)) ((l.drop i).take (j - i)) := by
  subst hn
  have := SlI.piece h h1 h2
  have hl : ((l.drop i).take (j - i)).length = j - i := by simp; omega
  unfold BySl
  rw [hl]
  simpa [List.map_take, List.map_drop] using this
theorem BySl.take {I : IM} {a : Option Addr} {n c : Nat} {l : List UInt8} (h : SlI I (.slice a n c) 1 l.length (l.map bv)) {j : Nat} (hj : j ≤ l.length) : BySl I (.slice a j c) (l.take j) := by
  have hn : l.length = n := by obtain ⟨_, _, e, _⟩ := SlI.form h; cases e; rfl
  have := BySl.piece (l := l) (i := 0) (j := j) (by unfold BySl; rw [hn]; rw [hn] at h; exact h) hn (by omega) (by omega)
  by_cases hc : c = 0 <;> simp [hc] at this ⊢ <;> cases a <;> simp_all [Addr.add]
theorem BySl.nil (I : IM) : BySl I (.slice none 0 0) [] := SlI.nil I 1

theorem bclone_spec (w0 : World) (I : IM) (ah : AH) (v : Value) (l : List UInt8) (h : BySl I v l) (hl : l.length ≤ 70368744177664) :
    SC P w0 n_bytes_Clone [v] I ah (fun v' I' ah' => OwnB I' ah ah' v' l ∧ (v' = .slice none 0 0 ↔ v = .slice none 0 0)) := by
  have hv := h
  obtain ⟨a, c, rfl, hc, hnil⟩ := h.form
  refine SC_enter fn_bytes_Clone rfl rfl (Nat.le_of_ble_eq_true rfl) ?_
  refine CW_seq ?_
  refine CW_region (l := [_]) ?_
  refine WL_val rfl (PE_assign rfl) ?_
  refine WL_nil ?_
  refine QA_seq ?_
  refine CW_seq ?_
  refine CW_seq ?_
  refine CW_region (l := [_, _]) ?_
  refine WL_val rfl (PE_move rfl) ?_
  refine WL_val rfl (PE_eqsn und_sl_uint8 rfl rfl rfl) ?_
  refine WL_nil ?_
  refine QA_seq ?_
  refine CW_cond rfl (fun c1 => ?_) (fun c1 => ?_)
  · obtain rfl : a = none := by simpa using c1
    obtain ⟨_, rfl⟩ : l.length = 0 ∧ c = 0 := by have := hnil.1 rfl; simpa using this
    have hl0 : l = [] := by
      rcases hv with ⟨_, _, h⟩ | ⟨_, _, _, h, _⟩
      · simpa using h
      · cases h
    refine CW_seq ?_
    refine CW_region (l := [_]) ?_
    refine WL_val rfl (PE_assign rfl) ?_
    refine WL_nil ?_
    refine QA_seq ?_
    refine CW_ret ?_
    refine QA_then_ret ?_
    refine QA_return (rs := [_]) rfl rfl (IM.le.refl _) (_) (fun _ _ h => h) ?_
    subst hl0; exact ⟨Own.nil _ _ _, by simp [packRes]⟩
  · have hne : a ≠ none := by rintro rfl; cases c1
    refine CW_skip ?_
    refine QA_seq ?_
    refine CW_seq ?_
    refine CW_region (l := [_, _, _, _]) ?_
    refine WL_op rfl (OE_litO (l := []) (vs := []) und_sl_uint8 te_uint8 rfl rfl rfl (by simp [Value.cells]) (by decide) rfl rfl) ?_
    rintro _ I3_0 ah3_0 ⟨v1, rfl, hI1, ho, hn1⟩
    refine WL_val rfl (PE_move rfl) ?_
    refine WL_op rfl (OE_append (n := 0) (m := l.length) (vs := []) (us := l.map bv) und_sl_uint8 ⟨_, und_sl_uint8⟩ te_uint8 rfl rfl rfl ho ((hv.mono hI1).src _) (bvs_one _) (by decide) (by omega) (by omega)) ?_
    rintro _ I3_2 ah3_2 ⟨v3_2, rfl, hI3_2, hv3_2, hn3_2⟩
    refine WL_val rfl (PE_assign rfl) ?_
    refine WL_nil ?_
    refine QA_seq ?_
    refine CW_ret ?_
    refine QA_return (rs := [_]) rfl rfl (hI1.trans hI3_2) (_) (fun _ _ h => h) ?_
    refine ⟨by simpa [OwnB, packRes] using hv3_2, ?_⟩
    simp only [packRes, iff_false]
    exact ⟨fun e => absurd (hn3_2 e).1 hn1, fun e => absurd (hnil.2 e) hne⟩

theorem sclone_spec (w0 : World) (I : IM) (ah : AH) (v : Value) (l : List UInt8) (h : BySl I v l) (hl : l.length ≤ 70368744177664) :
    SC P w0 n_slices_Clone_sl_byte_byte [v] I ah (fun v' I' ah' => OwnB I' ah ah' v' l ∧ (v' = .slice none 0 0 ↔ v = .slice none 0 0)) := by
  have hv := h
  obtain ⟨a, c, rfl, hc, hnil⟩ := h.form
  refine SC_enter fn_slices_Clone_sl_byte_byte rfl rfl (Nat.le_of_ble_eq_true rfl) ?_
  refine CW_seq ?_
  refine CW_region (l := [_]) ?_
  refine WL_val rfl (PE_assign rfl) ?_
  refine WL_nil ?_
  refine QA_seq ?_
  refine CW_seq ?_
  refine CW_seq ?_
  refine CW_region (l := [_, _]) ?_
  refine WL_val rfl (PE_move rfl) ?_
  refine WL_val rfl (PE_eqsn und_sl_uint8 rfl rfl rfl) ?_
  refine WL_nil ?_
  refine QA_seq ?_
  refine CW_cond rfl (fun c1 => ?_) (fun c1 => ?_)
  · obtain rfl : a = none := by simpa using c1
    obtain ⟨_, rfl⟩ : l.length = 0 ∧ c = 0 := by have := hnil.1 rfl; simpa using this
    have hl0 : l = [] := by
      rcases hv with ⟨_, _, h⟩ | ⟨_, _, _, h, _⟩
      · simpa using h
      · cases h
    refine CW_seq ?_
    refine CW_region (l := [_]) ?_
    refine WL_val rfl (PE_assign rfl) ?_
    refine WL_nil ?_
    refine QA_seq ?_
    refine CW_ret ?_
    refine QA_then_ret ?_
    refine QA_return (rs := [_]) rfl rfl (IM.le.refl _) (_) (fun _ _ h => h) ?_
    subst hl0; exact ⟨Own.nil _ _ _, by simp [packRes]⟩
  · have hne : a ≠ none := by rintro rfl; cases c1
    refine CW_skip ?_
    refine QA_seq ?_
    refine CW_seq ?_
    refine CW_region (l := [_, _, _, _]) ?_
    refine WL_op rfl (OE_litO (l := []) (vs := []) und_sl_uint8 te_uint8 rfl rfl rfl (by simp [Value.cells]) (by decide) rfl rfl) ?_
    rintro _ I3_0 ah3_0 ⟨v1, rfl, hI1, ho, hn1⟩
    refine WL_val rfl (PE_move rfl) ?_
    refine WL_op rfl (OE_append (n := 0) (m := l.length) (vs := []) (us := l.map bv) und_sl_uint8 ⟨_, und_sl_uint8⟩ te_uint8 rfl rfl rfl ho ((hv.mono hI1).src _) (bvs_one _) (by decide) (by omega) (by omega)) ?_
    rintro _ I3_2 ah3_2 ⟨v3_2, rfl, hI3_2, hv3_2, hn3_2⟩
    refine WL_val rfl (PE_assign rfl) ?_
    refine WL_nil ?_
    refine QA_seq ?_
    refine CW_ret ?_
    refine QA_return (rs := [_]) rfl rfl (hI1.trans hI3_2) (_) (fun _ _ h => h) ?_
    refine ⟨by simpa [OwnB, packRes] using hv3_2, ?_⟩
    simp only [packRes, iff_false]
    exact ⟨fun e => absurd (hn3_2 e).1 hn1, fun e => absurd (hnil.2 e) hne⟩

theorem grow_nil_spec (w0 : World) (I : IM) (ah : AH) (n : Nat) (hn : n ≤ 70368744177664) :
    SC P w0 n_slices_Grow_sl_byte_byte [.slice none 0 0, .int .i64 n] I ah (fun v' I' ah' => I = I' ∧ OwnB I' ah ah' v' []) := by
  refine SC_enter fn_slices_Grow_sl_byte_byte rfl rfl (Nat.le_of_ble_eq_true rfl) ?_
  refine CW_seq ?_
  refine CW_region (l := [_]) ?_
  refine WL_val rfl (PE_assign rfl) ?_
  refine WL_nil ?_
  refine QA_seq ?_
  refine CW_seq ?_
  refine CW_seq ?_
  refine CW_region (l := [_, _]) ?_
  refine WL_val rfl (PE_move rfl) ?_
  refine WL_val rfl (PE_lss (b := false) rfl rfl (by simp)) ?_
  refine WL_nil ?_
  refine QA_seq ?_
  refine CW_false rfl ?_
  refine CW_skip ?_
  refine QA_seq ?_
  refine CW_seq ?_
  refine CW_seq ?_
  refine CW_region (l := [_, _, _, _, _, _, _, _]) ?_
  refine WL_val rfl (PE_move rfl) ?_
  refine WL_val rfl (PE_move rfl) ?_
  refine WL_val rfl (PE_cap und_sl_uint8 rfl) ?_
  refine WL_val rfl (PE_move rfl) ?_
  refine WL_val rfl (PE_len und_sl_uint8 rfl) ?_
  refine WL_val rfl (PE_sub rfl rfl (w64 (by omega) (by omega))) ?_
  refine WL_val rfl (PE_sub (r := (n : Int)) rfl rfl (w64e (by simp) (by omega) (by omega))) ?_
  refine WL_val rfl (PE_assign rfl) ?_
  refine WL_nil ?_
  refine QA_seq ?_
  refine CW_seq ?_
  refine CW_region (l := [_, _]) ?_
  refine WL_val rfl (PE_move rfl) ?_
  refine WL_val rfl (PE_gtr rfl rfl rfl) ?_
  refine WL_nil ?_
  refine QA_seq ?_
  refine CW_cond rfl (fun c2 => ?_) (fun c2 => ?_)
  · have h0 : 0 < n := by simpa using c2
    refine CW_region (l := [_, _, _, _, _, _, _, _, _, _]) ?_
    refine WL_val rfl (PE_move rfl) ?_
    refine WL_val rfl (PE_move rfl) ?_
    refine WL_val rfl (PE_cap und_sl_uint8 rfl) ?_
    refine WL_val rfl (PE_sliceTo (h := 0) und_sl_uint8 te_uint8.size rfl rfl rfl (by omega)) ?_
    refine WL_val rfl (PE_move rfl) ?_
    refine WL_op rfl (OE_appendZ und_sl_uint8 und_int te_uint8 rfl rfl rfl h0 rfl (by omega) (by omega)) ?_
    rintro _ I5_5 ah5_5 ⟨b, c, rfl, rfl, rfl, hb, hc⟩
    refine WL_val rfl (PE_move rfl) ?_
    refine WL_val rfl (PE_len und_sl_uint8 rfl) ?_
    refine WL_val rfl (PE_sliceTo (h := 0) und_sl_uint8 te_uint8.size rfl rfl rfl (by omega)) ?_
    refine WL_val rfl (PE_assign rfl) ?_
    refine WL_nil ?_
    refine QA_seq ?_
    refine CW_seq ?_
    refine CW_region (l := [_, _]) ?_
    refine WL_val rfl (PE_move rfl) ?_
    refine WL_val rfl (PE_assign rfl) ?_
    refine WL_nil ?_
    refine QA_seq ?_
    refine CW_ret ?_
    refine QA_turn (fun w hs => hs.cells_tail (AH.set_same _ _ _) (Nat.zero_le _)) ?_
    rw [AH.set_set]
    refine QA_return (rs := [_]) rfl rfl (IM.le.refl _) (_) (fun _ _ h => h) ?_
    exact ⟨rfl, .inr ⟨b, 0, c, c, rfl, by simp, rfl, by simp, hb, by simp, by simp⟩⟩
  · have h0 : n = 0 := by simpa using c2
    refine CW_skip ?_
    refine QA_seq ?_
    refine CW_seq ?_
    refine CW_region (l := [_, _]) ?_
    refine WL_val rfl (PE_move rfl) ?_
    refine WL_val rfl (PE_assign rfl) ?_
    refine WL_nil ?_
    refine QA_seq ?_
    refine CW_ret ?_
    refine QA_return (rs := [_]) rfl rfl (IM.le.refl _) (_) (fun _ _ h => h) ?_
    exact ⟨rfl, Own.nil _ _ _⟩

/-- v is a slice of slices of bytes. -/
def ByRows (I : IM) (v : Value) (ls : List (List UInt8)) : Prop := ∃ vs : List Value, SlI I v 1 ls.length vs ∧ ∀ (i : Nat) (l : List UInt8), ls[i]? = some l → ∃ u, vs[i]? = some u ∧ BySl I u l
theorem ByRows.mono {I J : IM} {v : Value} {ls : List (List UInt8)} (h : ByRows I v ls) (hI : IM.le I J) : ByRows J v ls := by
  obtain ⟨vs, h1, h2⟩ := h
  exact ⟨vs, h1.mono hI, fun i l e => by obtain ⟨u, a, b⟩ := h2 i l e; exact ⟨u, a, b.mono hI⟩⟩
theorem ByRows.nil (I : IM) : ByRows I (.slice none 0 0) [] := ⟨[], SlI.nil I 1, fun i l e => by simp at e⟩
theorem flat_take (ls : List (List UInt8)) (k : Nat) (hk : k < ls.length) : (ls.take (k + 1)).flatten = (ls.take k).flatten ++ ls[k] := by
  rw [List.take_succ_eq_append_getElem hk, List.flatten_append]; simp
theorem flat_le (ls : List (List UInt8)) (k : Nat) : (ls.take k).flatten.length ≤ ls.flatten.length := by
  have h := congrArg (fun l => l.flatten.length) (List.take_append_drop k ls)
  simp only [List.flatten_append, List.length_append] at h
  omega
theorem len_le_flat (ls : List (List UInt8)) (k : Nat) (hk : k < ls.length) : (ls.take k).flatten.length + ls[k].length ≤ ls.flatten.length := by
  have := flat_le ls (k + 1)
  rw [flat_take ls k hk, List.length_append] at this; exact this

theorem concat_spec (w0 : World) (I : IM) (ah : AH) (v : Value) (ls : List (List UInt8)) (h : ByRows I v ls) (hn : ls.length ≤ 70368744177664) (hl : ls.flatten.length ≤ 70368744177664) :
    SC P w0 n_slices_Concat_sl_byte_byte [v] I ah (fun v' I' ah' => OwnB I' ah ah' v' ls.flatten) := by
  obtain ⟨vs, hv, hrows⟩ := h
  obtain ⟨a, c, hva, hc, hnil⟩ := hv.form
  refine SC_enter fn_slices_Concat_sl_byte_byte rfl rfl (Nat.le_of_ble_eq_true rfl) ?_
  refine CW_seq ?_
  refine CW_region (l := [_]) ?_
  refine WL_val rfl (PE_assign rfl) ?_
  refine WL_nil ?_
  refine QA_seq ?_
  refine CW_seq ?_
  refine CW_region (l := [_]) ?_
  refine WL_val rfl (PE_assign rfl) ?_
  refine WL_nil ?_
  refine QA_seq ?_
  refine CW_seq ?_
  refine CW_seq ?_
  refine CW_region (l := [_, _, _]) ?_
  refine WL_val rfl (PE_move rfl) ?_
  refine WL_val rfl (PE_len und_sl_sl_uint8 (by rw [← hva]; rfl)) ?_
  refine WL_val rfl (PE_move rfl) ?_
  refine WL_nil ?_
  refine QA_seq ?_
  refine CW_for (ls.length) (by omega) (fun k e I' ah' => e = [(9, v), (0, v), (3, .int .i64 ((ls.take k).flatten.length : Nat))] ∧ I = I' ∧ ah = ah') ([(9, v), (0, v), (3, .int .i64 (([] : List UInt8).length : Nat))]) (⟨rfl, rfl, rfl⟩) (by repeat (first | exact .nil | refine .cons rfl ?_)) (by rintro k e I ah ⟨rfl, _⟩; exact ⟨rfl, rfl, rfl, rfl⟩) rfl rfl rfl rfl ?_ ?_
  · rintro k e I ah hk ⟨rfl, rfl, rfl⟩
    obtain ⟨b, o, c, hvb, _, hcv⟩ := hv.at hk
    obtain ⟨u, hu, hul⟩ := hrows k ls[k] (by simp)
    have h1 := len_le_flat ls k hk
    obtain ⟨a1, c1, rfl, _⟩ := hul.form
    refine CW_block ?_
    refine CW_seq ?_
    refine CW_region (l := [_, _, _]) ?_
    refine WL_val rfl (PE_index1 und_sl_sl_uint8 te_sl_uint8.size (by rw [← hvb]; rfl) rfl rfl hk) ?_
    refine WL_val rfl (PE_load tc_sl_uint8 rfl (.imm (hcv k _ hu))) ?_
    refine WL_val rfl (PE_assign rfl) ?_
    refine WL_nil ?_
    refine QA_seq ?_
    refine CW_seq ?_
    refine CW_region (l := [_, _, _, _, _]) ?_
    refine WL_val rfl (PE_move rfl) ?_
    refine WL_val rfl (PE_move rfl) ?_
    refine WL_val rfl (PE_len und_sl_uint8 rfl) ?_
    refine WL_val rfl (PE_add (r := (((ls.take k).flatten.length + ls[k].length : Nat) : Int)) rfl rfl (w64e (by simp) (by omega) (by omega))) ?_
    refine WL_val rfl (PE_assign rfl) ?_
    refine WL_nil ?_
    refine QA_seq ?_
    refine CW_seq ?_
    refine CW_region (l := [_, _]) ?_
    refine WL_val rfl (PE_move rfl) ?_
    refine WL_val rfl (PE_lss (b := false) rfl rfl (by simp; omega)) ?_
    refine WL_nil ?_
    refine QA_seq ?_
    refine CW_false rfl ?_
    refine CW_skip ?_
    refine QA_block_normal ?_
    exact QA_next _ ⟨by rw [flat_take ls k hk, List.length_append], rfl, rfl⟩ (by repeat (first | exact .nil | refine .cons rfl ?_))
  · rintro e I ah ⟨rfl, rfl, rfl⟩
    rw [List.take_of_length_le (Nat.le_refl ls.length)]
    refine QA_seq ?_
    refine CW_seq ?_
    refine CW_region (l := [_, _, _]) ?_
    refine WL_val rfl (PE_move rfl) ?_
    refine WL_op rfl (OE_call (l := [_, _]) E_slices_Grow_sl_byte_byte rfl rfl (grow_nil_spec _ _ _ ls.flatten.length hl)) ?_
    rintro _ I9_1 ah9_1 ⟨v1, rfl, hI1, rfl, ho1⟩
    skip
    refine WL_val rfl (PE_assign rfl) ?_
    refine WL_nil ?_
    refine QA_seq ?_
    refine CW_seq ?_
    refine CW_seq ?_
    refine CW_region (l := [_, _, _]) ?_
    refine WL_val rfl (PE_move rfl) ?_
    refine WL_val rfl (PE_len und_sl_sl_uint8 (by rw [← hva]; rfl)) ?_
    refine WL_val rfl (PE_move rfl) ?_
    refine WL_nil ?_
    refine QA_seq ?_
    refine CW_for (ls.length) (by omega) (fun k e I' ah' => ∃ v', e = [(25, v), (6, v')] ∧ IM.le I I' ∧ OwnB I' ah ah' v' (ls.take k).flatten) ([(25, v), (6, v1)]) (⟨v1, rfl, hI1, ho1⟩) (by repeat (first | exact .nil | refine .cons rfl ?_)) (by rintro k e I ah ⟨_, rfl, _⟩; exact ⟨rfl, rfl, rfl, rfl⟩) rfl rfl rfl rfl ?_ ?_
    · rintro k e I2 ah2 hk ⟨v2, rfl, hI2, ho2⟩
      obtain ⟨b, o, c, hvb, _, hcv⟩ := hv.at hk
      obtain ⟨u, hu, hul⟩ := hrows k ls[k] (by simp)
      have h1 := len_le_flat ls k hk
      refine CW_block ?_
      refine CW_seq ?_
      refine CW_region (l := [_, _, _]) ?_
      refine WL_val rfl (PE_index1 und_sl_sl_uint8 te_sl_uint8.size (by rw [← hvb]; rfl) rfl rfl hk) ?_
      refine WL_val rfl (PE_load tc_sl_uint8 rfl (.imm (hI2 _ _ _ (hcv k _ hu)))) ?_
      refine WL_val rfl (PE_assign rfl) ?_
      refine WL_nil ?_
      refine QA_seq ?_
      refine CW_region (l := [_, _, _, _]) ?_
      refine WL_val rfl (PE_move rfl) ?_
      refine WL_val rfl (PE_move rfl) ?_
      refine WL_op rfl (OE_append (n := (ls.take k).flatten.length) (m := ls[k].length) (vs := (ls.take k).flatten.map bv) (us := ls[k].map bv) und_sl_uint8 ⟨_, und_sl_uint8⟩ te_uint8 rfl rfl rfl ho2 ((hul.mono hI2).src _) (bvs_one _) (by decide) (by omega) (by omega)) ?_
      rintro _ I13_2 ah13_2 ⟨v13_2, rfl, hI13_2, hv13_2, hn13_2⟩
      refine WL_val rfl (PE_assign rfl) ?_
      refine WL_nil ?_
      refine QA_block_normal ?_
      exact QA_next _ ⟨v13_2, rfl, hI2.trans hI13_2, by rw [flat_take ls k hk]; exact OwnB.of hv13_2 rfl⟩ (by repeat (first | exact .nil | refine .cons rfl ?_))
    · rintro e I2 ah2 ⟨v2, rfl, hI2, ho2⟩
      rw [List.take_of_length_le (Nat.le_refl _)] at ho2
      refine QA_seq ?_
      refine CW_seq ?_
      refine CW_region (l := [_, _]) ?_
      refine WL_val rfl (PE_move rfl) ?_
      refine WL_val rfl (PE_assign rfl) ?_
      refine WL_nil ?_
      refine QA_seq ?_
      refine CW_ret ?_
      refine QA_return (rs := [_]) rfl rfl (hI2) (_) (fun _ _ h => h) ?_
      exact ho2

theorem bequal_spec (w0 : World) (I : IM) (ah : AH) (v u : Value) (l m : List UInt8) (h : Src I ah v 1 l.length (l.map bv)) (k : Src I ah u 1 m.length (m.map bv)) :
    SC P w0 n_bytes_Equal [v, u] I ah (fun v' I' ah' => I = I' ∧ ah = ah' ∧ v' = .bool (decide (l = m))) := by
  refine SC_enter fn_bytes_Equal rfl rfl (Nat.le_of_ble_eq_true rfl) ?_
  refine CW_seq ?_
  refine CW_region (l := [_]) ?_
  refine WL_val rfl (PE_assign rfl) ?_
  refine WL_nil ?_
  refine QA_seq ?_
  refine CW_seq ?_
  refine CW_region (l := [_, _, _, _, _, _]) ?_
  refine WL_val rfl (PE_move rfl) ?_
  refine WL_val rfl (PE_convBS (l := l) und_sl_uint8 und_uint8 und_string rfl h) ?_
  refine WL_val rfl (PE_move rfl) ?_
  refine WL_val rfl (PE_convBS (l := m) und_sl_uint8 und_uint8 und_string rfl k) ?_
  refine WL_val rfl (PE_eqs rfl rfl rfl) ?_
  refine WL_val rfl (PE_assign rfl) ?_
  refine WL_nil ?_
  refine QA_seq ?_
  refine CW_ret ?_
  refine QA_return (rs := [_]) rfl rfl (IM.le.refl _) (_) (fun _ _ h => h) ?_
  exact ⟨rfl, rfl, by simp [packRes]⟩

end Go.Proofs.YthdpebagkfloaaaDoor

