/- sha: a block mixed into a state. -/
import Derived.Test.YthdpebagkfloaaaDoorPD
namespace Go.Proofs.YthdpebagkfloaaaDoor
open Go Go.RowKit SL
set_option linter.unusedVariables false
set_option linter.unusedSimpArgs false
set_option maxRecDepth 100000
def mixStep (w v : List UInt32) (i : Nat) : List UInt32 :=
  let e := v.getD 4 0
  let a := v.getD 0 0
  let s := rotr e 6 ^^^ rotr e 11 ^^^ rotr e 25
  let choice := e &&& v.getD 5 0 ^^^ ~~~e &&& v.getD 6 0
  let t := v.getD 7 0 + s + choice + shaK.getD i 0 + w.getD i 0
  let r := rotr a 2 ^^^ rotr a 13 ^^^ rotr a 22
  let most := a &&& v.getD 1 0 ^^^ a &&& v.getD 2 0 ^^^ v.getD 1 0 &&& v.getD 2 0
  [t + r + most, v.getD 0 0, v.getD 1 0, v.getD 2 0, v.getD 3 0 + t, v.getD 4 0, v.getD 5 0, v.getD 6 0]
def mixTo (w h : List UInt32) : Nat → List UInt32
  | 0 => h
  | k + 1 => mixStep w (mixTo w h k) k
theorem mixTo_len (w h : List UInt32) (hh : h.length = 8) (k : Nat) : (mixTo w h k).length = 8 := by
  cases k <;> simp [mixTo, mixStep, hh]
def addTo (h v : List UInt32) : Nat → List UInt32
  | 0 => h
  | k + 1 => (addTo h v k).set k ((addTo h v k).getD k 0 + v.getD k 0)
theorem addTo_len (h v : List UInt32) (k : Nat) : (addTo h v k).length = h.length := by
  induction k <;> simp_all [addTo]
def mixB (h : List UInt32) (b : List UInt8) : List UInt32 := addTo h (mixTo (sched b) h 64) 8
theorem mixB_len (h : List UInt32) (b : List UInt8) (hh : h.length = 8) : (mixB h b).length = 8 := by rw [mixB, addTo_len, hh]
theorem shaK_len : shaK.length = 64 := rfl
theorem words_one (l : List UInt32) : ∀ u ∈ l.map w32v, u.oneCell' = true := by intro u hu; obtain ⟨b, _, rfl⟩ := List.mem_map.1 hu; rfl
theorem splice_all (vs us : List Value) (h : vs.length = us.length) : splice vs 0 us = us := by simp [splice, ← h]
theorem cells_map (l : List UInt32) : (Value.agg (l.map w32v).toArray).cells.toList = l.map w32v := rfl
theorem Cell.lift {I : IM} {ah ah' : AH} {b o : Nat} {v : Value} (h : Cell I ah b o v) (k : ∀ b x, ah b = some x → ah' b = some x) : Cell I ah' b o v := by
  rcases h with h | ⟨vs, h1, h2⟩
  · exact .inl h
  · exact .inr ⟨vs, k _ _ h1, h2⟩

theorem mix_spec (w0 : World) (I : IM) (ah : AH) (h : List UInt32) (hh : h.length = 8) (v : Value) (l : List UInt8) (hb : BySl I v l) (hl : l.length = 64) (bk ok : Nat)
    (hkc : ∀ i, i < 64 → Cell I ah bk (ok + i) (w32v (shaK.getD i 0))) :
    SC P w0 n_sha_mix [.agg (h.map w32v).toArray, v, .pointer (some ⟨bk, ok, none⟩)] I ah (fun v' I' ah' => I = I' ∧ ah = ah' ∧ v' = .agg ((mixB h l).map w32v).toArray) := by
  refine SC_enter fn_sha_mix rfl rfl (Nat.le_of_ble_eq_true rfl) ?_
  refine CW_seq ?_
  refine CW_region (l := [_, _]) ?_
  refine WL_op rfl (OE_box rfl rfl) ?_
  rintro _ I0_0 ah0_0 ⟨b0_0, rfl, rfl, rfl, hb0_0, hw0_0⟩
  refine WL_op rfl (OE_alloc rfl te_a8_uint32.zero) ?_
  rintro _ I0_1 ah0_1 ⟨b0_1, rfl, rfl, rfl, hb0_1, hw0_1⟩
  refine WL_nil ?_
  refine QA_seq ?_
  refine CW_seq ?_
  refine CW_region (l := [_, _, _, _]) ?_
  refine WL_val rfl (PE_move rfl) ?_
  refine WL_op rfl (OE_call (l := [_]) E_sha_schedule rfl rfl (schedule_spec _ _ _ _ l hb hl)) ?_
  rintro _ I1_1 ah1_1 ⟨_, rfl, _, rfl, rfl, rfl⟩
  refine WL_op rfl (OE_alloc rfl te_a64_uint32.zero) ?_
  rintro _ I1_2 ah1_2 ⟨b1_2, rfl, rfl, rfl, hb1_2, hw1_2⟩
  refine WL_op rfl (OE_storeA (us := (sched l).map w32v) ta_a64_uint32 rfl rfl (by simp [sched, schedTo_len]) (words_one _) (AH.set_same _ _ _) (by simp [sched, schedTo_len, Value.cells])) ?_
  rintro _ I1_3 ah1_3 ⟨rfl, rfl, rfl⟩
  rw [AH.set_set, splice_all _ _ (by simp [sched, schedTo_len, Value.cells])]
  refine WL_nil ?_
  refine QA_seq ?_
  refine CW_seq ?_
  refine CW_region (l := [_, _, _]) ?_
  have n36 := free_ne hb0_1
  have n67 := free_ne hb1_2
  have n37 := free_ne (free_of hb1_2)
  refine WL_val rfl (PE_loadA (vs := h.map w32v) ta_a8_uint32 rfl (by simp [hh]) (.own (by rw [AH.set_ne _ _ n37, AH.set_ne _ _ n36, cells_map]; exact AH.set_same _ _ _))) ?_
  refine WL_op rfl (OE_alloc rfl te_a8_uint32.zero) ?_
  rintro _ I2_1 ah2_1 ⟨b2_1, rfl, rfl, rfl, hb2_1, hw2_1⟩
  refine WL_op rfl (OE_storeA (us := h.map w32v) ta_a8_uint32 rfl rfl (by simp [hh]) (words_one _) (AH.set_same _ _ _) (by simp [hh, Value.cells])) ?_
  rintro _ I2_2 ah2_2 ⟨rfl, rfl, rfl⟩
  rw [AH.set_set, splice_all _ _ (by simp [hh, Value.cells])]
  have n78 := free_ne hb2_1
  have n68 := free_ne (free_of hb2_1)
  have n38 := free_ne (free_of (free_of hb2_1))
  have f8 : Free ah b2_1 := free_of (free_of (free_of hb2_1))
  have e6 : Free ah b0_1 := free_of hb0_1
  have e3 : Free ah b0_0 := hb0_0
  refine WL_heap (fun A => A b0_0 = some (.cells (h.map w32v)) ∧ A b0_1 = some (.cells (List.replicate 8 (Value.int .u32 0))) ∧ A b1_2 = some (.cells ((sched l).map w32v)) ∧ A b2_1 = some (.cells (h.map w32v)) ∧ ∀ b x, ah b = some x → A b = some x) ?_ ?_
  · refine ⟨?_, ?_, ?_, ?_, ?_⟩
    · rw [AH.set_ne _ _ n38, AH.set_ne _ _ n37, AH.set_ne _ _ n36, AH.set_same, cells_map]
    · rw [AH.set_ne _ _ n68, AH.set_ne _ _ n67, AH.set_same]; simp [Value.cells]
    · rw [AH.set_ne _ _ n78, AH.set_same]
    · rw [AH.set_same]
    · exact AH.keep_set' (AH.keep_set' (AH.keep_set' (AH.keep_set' (fun _ _ h => h) hb0_0) e6) (free_of (free_of hb1_2))) f8
  clear hb0_1 hb1_2 hb2_1
  rintro A ⟨a3, a6, a7, a8, k0⟩
  refine WL_nil ?_
  refine QA_seq ?_
  refine CW_seq ?_
  refine CW_seq ?_
  refine CW_region (l := [_]) ?_
  refine WL_val rfl (PE_move rfl) ?_
  refine WL_nil ?_
  refine QA_seq ?_
  refine CW_forC (64) (by omega) (fun k e I' A' => e = [(3, .pointer (some ⟨b0_0, 0, none⟩)), (6, .pointer (some ⟨b0_1, 0, none⟩)), (7, .pointer (some ⟨b1_2, 0, none⟩)), (8, .pointer (some ⟨b2_1, 0, none⟩)), (2, .pointer (some ⟨bk, ok, none⟩))] ∧ I = I' ∧ A' b0_0 = some (.cells (h.map w32v)) ∧ A' b0_1 = some (.cells (List.replicate 8 (Value.int .u32 0))) ∧ A' b1_2 = some (.cells ((sched l).map w32v)) ∧ A' b2_1 = some (.cells ((mixTo (sched l) h k).map w32v)) ∧ ∀ b x, ah b = some x → A' b = some x) ([(3, .pointer (some ⟨b0_0, 0, none⟩)), (6, .pointer (some ⟨b0_1, 0, none⟩)), (7, .pointer (some ⟨b1_2, 0, none⟩)), (8, .pointer (some ⟨b2_1, 0, none⟩)), (2, .pointer (some ⟨bk, ok, none⟩))]) (⟨rfl, rfl, a3, a6, a7, a8, k0⟩) (by repeat (first | exact .nil | refine .cons rfl ?_)) (by rintro k e I ah ⟨rfl, _⟩; exact ⟨rfl, rfl, rfl⟩) rfl rfl rfl rfl ?_ ?_ rfl
  · rintro k e I A' hk ⟨rfl, rfl, h3, h6, h7, h8, hkeep⟩
    have hm := mixTo_len (sched l) h hh k
    have hsl : (sched l).length = 64 := schedTo_len l 64
    refine CW_block ?_
    refine CW_seq ?_
    refine CW_region (l := [_, _]) ?_
    refine WL_val rfl (PE_move rfl) ?_
    refine WL_val rfl (PE_assign rfl) ?_
    refine WL_nil ?_
    refine QA_seq ?_
    refine CW_seq ?_
    refine CW_drawS (l := [_, _, _, _, _, _]) 6 mixed ?_
    refine WA_take 0 rfl (by kernel_rfl) (by kernel_rfl) (by kernel_rfl) (by kernel_rfl) rfl (by kernel_rfl) rfl (IM.le.refl _) (fun _ _ h => h) (PE_ixA0 (i := 4) und_a8_uint32 te_uint32.size rfl rfl rfl (by omega)) ?_
    refine WA_take 1 rfl (by kernel_rfl) (by kernel_rfl) (by kernel_rfl) (by kernel_rfl) rfl (by kernel_rfl) rfl (IM.le.refl _) (fun _ _ h => h) (PE_load tc_uint32 rfl (.own h8 (map_get _ 4 (by omega)))) ?_
    refine WA_take 2 rfl (by kernel_rfl) (by kernel_rfl) (by kernel_rfl) (by kernel_rfl) rfl (by kernel_rfl) rfl (IM.le.refl _) (fun _ _ h => h) (PE_ixA0 (i := 0) und_a8_uint32 te_uint32.size rfl rfl rfl (by omega)) ?_
    refine WA_take 3 rfl (by kernel_rfl) (by kernel_rfl) (by kernel_rfl) (by kernel_rfl) rfl (by kernel_rfl) rfl (IM.le.refl _) (fun _ _ h => h) (PE_load tc_uint32 rfl (.own h8 (map_get _ 0 (by omega)))) ?_
    refine WA_take 4 rfl (by kernel_rfl) (by kernel_rfl) (by kernel_rfl) (by kernel_rfl) rfl (by kernel_rfl) rfl (IM.le.refl _) (fun _ _ h => h) (PE_assign rfl) ?_
    refine WA_take 5 rfl (by kernel_rfl) (by kernel_rfl) (by kernel_rfl) (by kernel_rfl) rfl (by kernel_rfl) rfl (IM.le.refl _) (fun _ _ h => h) (PE_assign rfl) ?_
    refine WA_done (by kernel_rfl) ?_
    refine QA_seq ?_
    refine CW_seq ?_
    refine CW_region (l := [_, _, _, _, _, _, _, _, _]) ?_
    refine WL_val rfl (PE_move rfl) ?_
    refine WL_op rfl (OE_call (l := [_, _]) E_sha_turn rfl rfl (turn_spec _ _ _ _ 6 (by omega) (by omega))) ?_
    rintro _ I7_1 ah7_1 ⟨_, rfl, _, rfl, rfl, rfl⟩
    refine WL_val rfl (PE_move rfl) ?_
    refine WL_op rfl (OE_call (l := [_, _]) E_sha_turn rfl rfl (turn_spec _ _ _ _ 11 (by omega) (by omega))) ?_
    rintro _ I7_3 ah7_3 ⟨_, rfl, _, rfl, rfl, rfl⟩
    refine WL_val rfl (PE_bits rfl rfl (by simp) (xor32 _ _)) ?_
    refine WL_val rfl (PE_move rfl) ?_
    refine WL_op rfl (OE_call (l := [_, _]) E_sha_turn rfl rfl (turn_spec _ _ _ _ 25 (by omega) (by omega))) ?_
    rintro _ I7_6 ah7_6 ⟨_, rfl, _, rfl, rfl, rfl⟩
    refine WL_val rfl (PE_bits rfl rfl (by simp) (xor32 _ _)) ?_
    refine WL_val rfl (PE_assign rfl) ?_
    refine WL_nil ?_
    refine QA_seq ?_
    refine CW_seq ?_
    refine CW_region (l := [_, _, _, _, _, _, _, _, _, _, _]) ?_
    refine WL_val rfl (PE_move rfl) ?_
    refine WL_val rfl (PE_ixA0 (i := 5) und_a8_uint32 te_uint32.size rfl rfl rfl (by omega)) ?_
    refine WL_val rfl (PE_load tc_uint32 rfl (.own h8 (map_get _ 5 (by omega)))) ?_
    refine WL_val rfl (PE_bits rfl rfl (by simp) (and32 _ _)) ?_
    refine WL_val rfl (PE_move rfl) ?_
    refine WL_val rfl (PE_un rfl (not32 _)) ?_
    refine WL_val rfl (PE_ixA0 (i := 6) und_a8_uint32 te_uint32.size rfl rfl rfl (by omega)) ?_
    refine WL_val rfl (PE_load tc_uint32 rfl (.own h8 (map_get _ 6 (by omega)))) ?_
    refine WL_val rfl (PE_bits rfl rfl (by simp) (and32 _ _)) ?_
    refine WL_val rfl (PE_bits rfl rfl (by simp) (xor32 _ _)) ?_
    refine WL_val rfl (PE_assign rfl) ?_
    refine WL_nil ?_
    refine QA_seq ?_
    refine CW_seq ?_
    refine CW_drawS (l := [_, _, _, _, _, _, _, _, _, _, _, _, _, _, _, _, _]) 17 mixed ?_
    refine WA_take 0 rfl (by kernel_rfl) (by kernel_rfl) (by kernel_rfl) (by kernel_rfl) rfl (by kernel_rfl) rfl (IM.le.refl _) (fun _ _ h => h) (PE_ixA0 (i := 7) und_a8_uint32 te_uint32.size rfl rfl rfl (by omega)) ?_
    refine WA_take 1 rfl (by kernel_rfl) (by kernel_rfl) (by kernel_rfl) (by kernel_rfl) rfl (by kernel_rfl) rfl (IM.le.refl _) (fun _ _ h => h) (PE_load tc_uint32 rfl (.own h8 (map_get _ 7 (by omega)))) ?_
    refine WA_take 2 rfl (by kernel_rfl) (by kernel_rfl) (by kernel_rfl) (by kernel_rfl) rfl (by kernel_rfl) rfl (IM.le.refl _) (fun _ _ h => h) (PE_move rfl) ?_
    refine WA_take 3 rfl (by kernel_rfl) (by kernel_rfl) (by kernel_rfl) (by kernel_rfl) rfl (by kernel_rfl) rfl (IM.le.refl _) (fun _ _ h => h) (PE_add rfl rfl (add32 _ _)) ?_
    refine WA_take 4 rfl (by kernel_rfl) (by kernel_rfl) (by kernel_rfl) (by kernel_rfl) rfl (by kernel_rfl) rfl (IM.le.refl _) (fun _ _ h => h) (PE_move rfl) ?_
    refine WA_take 5 rfl (by kernel_rfl) (by kernel_rfl) (by kernel_rfl) (by kernel_rfl) rfl (by kernel_rfl) rfl (IM.le.refl _) (fun _ _ h => h) (PE_add rfl rfl (add32 _ _)) ?_
    refine WA_take 6 rfl (by kernel_rfl) (by kernel_rfl) (by kernel_rfl) (by kernel_rfl) rfl (by kernel_rfl) rfl (IM.le.refl _) (fun _ _ h => h) (PE_move rfl) ?_
    refine WA_take 7 rfl (by kernel_rfl) (by kernel_rfl) (by kernel_rfl) (by kernel_rfl) rfl (by kernel_rfl) rfl (IM.le.refl _) (fun _ _ h => h) (PE_move rfl) ?_
    refine WA_take 8 rfl (by kernel_rfl) (by kernel_rfl) (by kernel_rfl) (by kernel_rfl) rfl (by kernel_rfl) rfl (IM.le.refl _) (fun _ _ h => h) (PE_nilCheck rfl) ?_
    refine WA_take 9 rfl (by kernel_rfl) (by kernel_rfl) (by kernel_rfl) (by kernel_rfl) rfl (by kernel_rfl) rfl (IM.le.refl _) (fun _ _ h => h) (PE_ixA1 (i := k) und_a64_uint32 te_uint32.size rfl rfl rfl hk) ?_
    refine WA_take 10 rfl (by kernel_rfl) (by kernel_rfl) (by kernel_rfl) (by kernel_rfl) rfl (by kernel_rfl) rfl (IM.le.refl _) (fun _ _ h => h) (PE_load tc_uint32 rfl (Cell.lift (hkc k (by omega)) hkeep)) ?_
    refine WA_take 11 rfl (by kernel_rfl) (by kernel_rfl) (by kernel_rfl) (by kernel_rfl) rfl (by kernel_rfl) rfl (IM.le.refl _) (fun _ _ h => h) (PE_add rfl rfl (add32 _ _)) ?_
    refine WA_take 12 rfl (by kernel_rfl) (by kernel_rfl) (by kernel_rfl) (by kernel_rfl) rfl (by kernel_rfl) rfl (IM.le.refl _) (fun _ _ h => h) (PE_move rfl) ?_
    refine WA_take 13 rfl (by kernel_rfl) (by kernel_rfl) (by kernel_rfl) (by kernel_rfl) rfl (by kernel_rfl) rfl (IM.le.refl _) (fun _ _ h => h) (PE_ixA0 (i := k) und_a64_uint32 te_uint32.size rfl rfl rfl hk) ?_
    refine WA_take 14 rfl (by kernel_rfl) (by kernel_rfl) (by kernel_rfl) (by kernel_rfl) rfl (by kernel_rfl) rfl (IM.le.refl _) (fun _ _ h => h) (PE_load tc_uint32 rfl (.own h7 (map_get _ k (by omega)))) ?_
    refine WA_take 15 rfl (by kernel_rfl) (by kernel_rfl) (by kernel_rfl) (by kernel_rfl) rfl (by kernel_rfl) rfl (IM.le.refl _) (fun _ _ h => h) (PE_add rfl rfl (add32 _ _)) ?_
    refine WA_take 16 rfl (by kernel_rfl) (by kernel_rfl) (by kernel_rfl) (by kernel_rfl) rfl (by kernel_rfl) rfl (IM.le.refl _) (fun _ _ h => h) (PE_assign rfl) ?_
    refine WA_done (by kernel_rfl) ?_
    refine QA_seq ?_
    refine CW_seq ?_
    refine CW_region (l := [_, _, _, _, _, _, _, _, _]) ?_
    refine WL_val rfl (PE_move rfl) ?_
    refine WL_op rfl (OE_call (l := [_, _]) E_sha_turn rfl rfl (turn_spec _ _ _ _ 2 (by omega) (by omega))) ?_
    rintro _ I10_1 ah10_1 ⟨_, rfl, _, rfl, rfl, rfl⟩
    refine WL_val rfl (PE_move rfl) ?_
    refine WL_op rfl (OE_call (l := [_, _]) E_sha_turn rfl rfl (turn_spec _ _ _ _ 13 (by omega) (by omega))) ?_
    rintro _ I10_3 ah10_3 ⟨_, rfl, _, rfl, rfl, rfl⟩
    refine WL_val rfl (PE_bits rfl rfl (by simp) (xor32 _ _)) ?_
    refine WL_val rfl (PE_move rfl) ?_
    refine WL_op rfl (OE_call (l := [_, _]) E_sha_turn rfl rfl (turn_spec _ _ _ _ 22 (by omega) (by omega))) ?_
    rintro _ I10_6 ah10_6 ⟨_, rfl, _, rfl, rfl, rfl⟩
    refine WL_val rfl (PE_bits rfl rfl (by simp) (xor32 _ _)) ?_
    refine WL_val rfl (PE_assign rfl) ?_
    refine WL_nil ?_
    refine QA_seq ?_
    refine CW_seq ?_
    refine CW_region (l := [_, _, _, _, _, _, _, _, _, _, _, _, _, _, _, _]) ?_
    refine WL_val rfl (PE_move rfl) ?_
    refine WL_val rfl (PE_ixA0 (i := 1) und_a8_uint32 te_uint32.size rfl rfl rfl (by omega)) ?_
    refine WL_val rfl (PE_load tc_uint32 rfl (.own h8 (map_get _ 1 (by omega)))) ?_
    refine WL_val rfl (PE_bits rfl rfl (by simp) (and32 _ _)) ?_
    refine WL_val rfl (PE_move rfl) ?_
    refine WL_val rfl (PE_ixA0 (i := 2) und_a8_uint32 te_uint32.size rfl rfl rfl (by omega)) ?_
    refine WL_val rfl (PE_load tc_uint32 rfl (.own h8 (map_get _ 2 (by omega)))) ?_
    refine WL_val rfl (PE_bits rfl rfl (by simp) (and32 _ _)) ?_
    refine WL_val rfl (PE_bits rfl rfl (by simp) (xor32 _ _)) ?_
    refine WL_val rfl (PE_ixA0 (i := 1) und_a8_uint32 te_uint32.size rfl rfl rfl (by omega)) ?_
    refine WL_val rfl (PE_load tc_uint32 rfl (.own h8 (map_get _ 1 (by omega)))) ?_
    refine WL_val rfl (PE_ixA0 (i := 2) und_a8_uint32 te_uint32.size rfl rfl rfl (by omega)) ?_
    refine WL_val rfl (PE_load tc_uint32 rfl (.own h8 (map_get _ 2 (by omega)))) ?_
    refine WL_val rfl (PE_bits rfl rfl (by simp) (and32 _ _)) ?_
    refine WL_val rfl (PE_bits rfl rfl (by simp) (xor32 _ _)) ?_
    refine WL_val rfl (PE_assign rfl) ?_
    refine WL_nil ?_
    refine QA_seq ?_
    refine CW_region (l := [_, _, _, _, _, _, _, _, _, _, _, _, _, _, _, _, _, _, _, _, _, _, _]) ?_
    refine WL_val rfl (PE_move rfl) ?_
    refine WL_val rfl (PE_move rfl) ?_
    refine WL_val rfl (PE_add rfl rfl (add32 _ _)) ?_
    refine WL_val rfl (PE_move rfl) ?_
    refine WL_val rfl (PE_add rfl rfl (add32 _ _)) ?_
    refine WL_val rfl (PE_ixA0 (i := 0) und_a8_uint32 te_uint32.size rfl rfl rfl (by omega)) ?_
    refine WL_val rfl (PE_load tc_uint32 rfl (.own h8 (map_get _ 0 (by omega)))) ?_
    refine WL_val rfl (PE_ixA0 (i := 1) und_a8_uint32 te_uint32.size rfl rfl rfl (by omega)) ?_
    refine WL_val rfl (PE_load tc_uint32 rfl (.own h8 (map_get _ 1 (by omega)))) ?_
    refine WL_val rfl (PE_ixA0 (i := 2) und_a8_uint32 te_uint32.size rfl rfl rfl (by omega)) ?_
    refine WL_val rfl (PE_load tc_uint32 rfl (.own h8 (map_get _ 2 (by omega)))) ?_
    refine WL_val rfl (PE_ixA0 (i := 3) und_a8_uint32 te_uint32.size rfl rfl rfl (by omega)) ?_
    refine WL_val rfl (PE_load tc_uint32 rfl (.own h8 (map_get _ 3 (by omega)))) ?_
    refine WL_val rfl (PE_move rfl) ?_
    refine WL_val rfl (PE_add rfl rfl (add32 _ _)) ?_
    refine WL_val rfl (PE_ixA0 (i := 4) und_a8_uint32 te_uint32.size rfl rfl rfl (by omega)) ?_
    refine WL_val rfl (PE_load tc_uint32 rfl (.own h8 (map_get _ 4 (by omega)))) ?_
    refine WL_val rfl (PE_ixA0 (i := 5) und_a8_uint32 te_uint32.size rfl rfl rfl (by omega)) ?_
    refine WL_val rfl (PE_load tc_uint32 rfl (.own h8 (map_get _ 5 (by omega)))) ?_
    refine WL_val rfl (PE_ixA0 (i := 6) und_a8_uint32 te_uint32.size rfl rfl rfl (by omega)) ?_
    refine WL_val rfl (PE_load tc_uint32 rfl (.own h8 (map_get _ 6 (by omega)))) ?_
    refine WL_val rfl (PE_buildAA und_a8_uint32 te_uint32 te_a8_uint32.zero rfl rfl rfl rfl) ?_
    refine WL_op rfl (OE_storeA (us := [_, _, _, _, _, _, _, _]) ta_a8_uint32 rfl rfl rfl (by simp [Value.oneCell']) h8 (by simp [hm])) ?_
    rintro _ I12_22 ah12_22 ⟨rfl, rfl, rfl⟩
    rw [splice_all _ _ (by simp [hm])]
    have hmx : (mixTo (sched l) h (k + 1)).map w32v = (mixStep (sched l) (mixTo (sched l) h k) k).map w32v := by rw [mixTo]
    simp only [mixStep, List.map_cons, List.map_nil] at hmx
    rw [← hmx]
    refine WL_nil ?_
    refine QA_block_normal ?_
    exact QA_nextC _ ⟨rfl, rfl, by rw [AH.set_ne _ _ n38]; exact h3, by rw [AH.set_ne _ _ n68]; exact h6, by rw [AH.set_ne _ _ n78]; exact h7, AH.set_same _ _ _, AH.keep_set' hkeep f8⟩ (by repeat (first | exact .nil | refine .cons rfl ?_))
  · rintro e I A' ⟨rfl, rfl, h3, h6, h7, h8, hkeep⟩
    have hm := mixTo_len (sched l) h hh 64
    refine QA_seq ?_
    refine CW_seq ?_
    refine CW_seq ?_
    refine CW_region (l := [_]) ?_
    refine WL_val rfl (PE_move rfl) ?_
    refine WL_nil ?_
    refine QA_seq ?_
    refine CW_forC (8) (by omega) (fun k e I' A' => e = [(3, .pointer (some ⟨b0_0, 0, none⟩)), (6, .pointer (some ⟨b0_1, 0, none⟩)), (8, .pointer (some ⟨b2_1, 0, none⟩))] ∧ I = I' ∧ A' b0_0 = some (.cells ((addTo h (mixTo (sched l) h 64) k).map w32v)) ∧ A' b0_1 = some (.cells (List.replicate 8 (Value.int .u32 0))) ∧ A' b2_1 = some (.cells ((mixTo (sched l) h 64).map w32v)) ∧ ∀ b x, ah b = some x → A' b = some x) ([(3, .pointer (some ⟨b0_0, 0, none⟩)), (6, .pointer (some ⟨b0_1, 0, none⟩)), (8, .pointer (some ⟨b2_1, 0, none⟩))]) (⟨rfl, rfl, h3, h6, h8, hkeep⟩) (by repeat (first | exact .nil | refine .cons rfl ?_)) (by rintro k e I ah ⟨rfl, _⟩; exact ⟨rfl, rfl, rfl⟩) rfl rfl rfl rfl ?_ ?_ rfl
    · rintro k e I A' hk ⟨rfl, rfl, h3, h6, h8, hkeep⟩
      have hm := mixTo_len (sched l) h hh 64
      have ha := addTo_len h (mixTo (sched l) h 64) k
      refine CW_block ?_
      refine CW_seq ?_
      refine CW_region (l := [_, _]) ?_
      refine WL_val rfl (PE_move rfl) ?_
      refine WL_val rfl (PE_assign rfl) ?_
      refine WL_nil ?_
      refine QA_seq ?_
      refine CW_drawS (l := [_, _, _, _, _, _, _, _, _]) 8 mixed ?_
      refine WA_take 0 rfl (by kernel_rfl) (by kernel_rfl) (by kernel_rfl) (by kernel_rfl) rfl (by kernel_rfl) rfl (IM.le.refl _) (fun _ _ h => h) (PE_move rfl) ?_
      refine WA_take 1 rfl (by kernel_rfl) (by kernel_rfl) (by kernel_rfl) (by kernel_rfl) rfl (by kernel_rfl) rfl (IM.le.refl _) (fun _ _ h => h) (PE_ixA0 (i := k) und_a8_uint32 te_uint32.size rfl rfl rfl (by omega)) ?_
      refine WA_take 2 rfl (by kernel_rfl) (by kernel_rfl) (by kernel_rfl) (by kernel_rfl) rfl (by kernel_rfl) rfl (IM.le.refl _) (fun _ _ h => h) (PE_load tc_uint32 rfl (.own h3 (map_get _ k (by omega)))) ?_
      refine WA_take 3 rfl (by kernel_rfl) (by kernel_rfl) (by kernel_rfl) (by kernel_rfl) rfl (by kernel_rfl) rfl (IM.le.refl _) (fun _ _ h => h) (PE_move rfl) ?_
      refine WA_take 4 rfl (by kernel_rfl) (by kernel_rfl) (by kernel_rfl) (by kernel_rfl) rfl (by kernel_rfl) rfl (IM.le.refl _) (fun _ _ h => h) (PE_ixA0 (i := k) und_a8_uint32 te_uint32.size rfl rfl rfl (by omega)) ?_
      refine WA_take 5 rfl (by kernel_rfl) (by kernel_rfl) (by kernel_rfl) (by kernel_rfl) rfl (by kernel_rfl) rfl (IM.le.refl _) (fun _ _ h => h) (PE_load tc_uint32 rfl (.own h8 (map_get _ k (by omega)))) ?_
      refine WA_take 6 rfl (by kernel_rfl) (by kernel_rfl) (by kernel_rfl) (by kernel_rfl) rfl (by kernel_rfl) rfl (IM.le.refl _) (fun _ _ h => h) (PE_add rfl rfl (add32 _ _)) ?_
      refine WA_take 7 rfl (by kernel_rfl) (by kernel_rfl) (by kernel_rfl) (by kernel_rfl) rfl (by kernel_rfl) rfl (IM.le.refl _) (fun _ _ h => h) (PE_ixA0 (i := k) und_a8_uint32 te_uint32.size rfl rfl rfl (by omega)) ?_
      refine WA_last 8 rfl rfl (by kernel_rfl) (by kernel_rfl) (OE_store tc_uint32 rfl rfl rfl h3 (by simp; omega)) ?_
      rintro _ I17_8 ah17_8 ⟨rfl, rfl, rfl⟩
      refine WA_done (by kernel_rfl) ?_
      refine QA_block_normal ?_
      exact QA_nextC _ ⟨rfl, rfl, by rw [AH.set_same, ← List.map_set]; rfl, by rw [AH.set_ne _ _ (Ne.symm n36)]; exact h6, by rw [AH.set_ne _ _ (Ne.symm n38)]; exact h8, AH.keep_set' hkeep e3⟩ (by repeat (first | exact .nil | refine .cons rfl ?_))
    · rintro e I A' ⟨rfl, rfl, h3, h6, h8, hkeep⟩
      have ha := addTo_len h (mixTo (sched l) h 64) 8
      refine QA_seq ?_
      refine CW_seq ?_
      refine CW_region (l := [_, _]) ?_
      refine WL_val rfl (PE_loadA (vs := (mixB h l).map w32v) ta_a8_uint32 rfl (by simp [mixB_len h l hh]) (.own h3)) ?_
      refine WL_op rfl (OE_storeA ta_a8_uint32 rfl rfl (by simp [mixB_len h l hh]) (words_one _) h6 (by simp [mixB_len h l hh])) ?_
      rintro _ I19_1 ah19_1 ⟨rfl, rfl, rfl⟩
      rw [splice_all _ _ (by simp [mixB_len h l hh])]
      refine WL_nil ?_
      refine QA_seq ?_
      refine CW_ret ?_
      refine QA_returnR (rs := [_]) rfl (.agg rfl (AH.set_same _ _ _) (by rw [show ((mixB h l).map w32v).length = 8 by simp [mixB_len h l hh]]; exact ta_a8_uint32) .nil) (IM.le.refl _) (_) (AH.keep_set' hkeep e6) ?_
      exact ⟨rfl, rfl, rfl⟩

end Go.Proofs.YthdpebagkfloaaaDoor

