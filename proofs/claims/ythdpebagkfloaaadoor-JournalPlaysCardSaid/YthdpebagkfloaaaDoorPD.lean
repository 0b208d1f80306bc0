/- sha: the numbers, the rounds' words. -/
import Derived.Test.YthdpebagkfloaaaDoorPC
namespace Go.Proofs.YthdpebagkfloaaaDoor
open Go Go.RowKit SL
set_option linter.unusedVariables false
set_option linter.unusedSimpArgs false
set_option maxRecDepth 100000
def shaStart : List UInt32 := [1779033703, 3144134277, 1013904242, 2773480762, 1359893119, 2600822924, 528734635, 1541459225]
def shaK : List UInt32 := [1116352408, 1899447441, 3049323471, 3921009573, 961987163, 1508970993, 2453635748, 2870763221, 3624381080, 310598401, 607225278, 1426881987, 1925078388, 2162078206, 2614888103, 3248222580, 3835390401, 4022224774, 264347078, 604807628, 770255983, 1249150122, 1555081692, 1996064986, 2554220882, 2821834349, 2952996808, 3210313671, 3336571891, 3584528711, 113926993, 338241895, 666307205, 773529912, 1294757372, 1396182291, 1695183700, 1986661051, 2177026350, 2456956037, 2730485921, 2820302411, 3259730800, 3345764771, 3516065817, 3600352804, 4094571909, 275423344, 430227734, 506948616, 659060556, 883997877, 958139571, 1322822218, 1537002063, 1747873779, 1955562222, 2024104815, 2227730452, 2361852424, 2428436474, 2756734187, 3204031479, 3329325298]

theorem start_spec (w0 : World) (I : IM) (ah : AH) :
    SC P w0 n_sha_start [] I ah (fun v I' ah' => I = I' ∧ ah = ah' ∧ v = .agg (shaStart.map w32v).toArray) := by
  refine SC_enter fn_sha_start rfl rfl (Nat.le_of_ble_eq_true rfl) ?_
  refine CW_seq ?_
  refine CW_region (l := [_]) ?_
  refine WL_op rfl (OE_alloc rfl te_a8_uint32.zero) ?_
  rintro _ I0_0 ah0_0 ⟨b0_0, rfl, rfl, rfl, hb0_0, hw0_0⟩
  refine WL_nil ?_
  refine QA_seq ?_
  refine CW_seq ?_
  refine CW_region (l := [_, _]) ?_
  refine WL_val rfl (PE_buildA (l := [_, _, _, _, _, _, _, _]) (vs := [_, _, _, _, _, _, _, _]) und_a8_uint32 te_uint32 te_a8_uint32.zero rfl rfl) ?_
  refine WL_op rfl (OE_storeA ta_a8_uint32 rfl rfl rfl (by simp [Value.oneCell']) (AH.set_same _ _ _) (Nat.le_of_ble_eq_true rfl)) ?_
  rintro _ I1_1 ah1_1 ⟨rfl, rfl, rfl⟩
  refine WL_nil ?_
  refine QA_seq ?_
  refine CW_ret ?_
  refine QA_returnR (rs := [_]) rfl (.agg rfl (AH.set_same _ _ _) ta_a8_uint32 .nil) (IM.le.refl _) (_) (AH.keep_set' (AH.keep_set (fun _ _ h => h) hb0_0) hb0_0) ?_
  exact ⟨rfl, rfl, rfl⟩

theorem constants_spec (w0 : World) (I : IM) (ah : AH) :
    SC P w0 n_sha_constants [] I ah (fun v I' ah' => I = I' ∧ ah = ah' ∧ v = .agg (shaK.map w32v).toArray) := by
  refine SC_enter fn_sha_constants rfl rfl (Nat.le_of_ble_eq_true rfl) ?_
  refine CW_seq ?_
  refine CW_region (l := [_]) ?_
  refine WL_op rfl (OE_alloc rfl te_a64_uint32.zero) ?_
  rintro _ I0_0 ah0_0 ⟨b0_0, rfl, rfl, rfl, hb0_0, hw0_0⟩
  refine WL_nil ?_
  refine QA_seq ?_
  refine CW_seq ?_
  refine CW_region (l := [_, _]) ?_
  refine WL_val rfl (PE_buildA (l := [_, _, _, _, _, _, _, _, _, _, _, _, _, _, _, _, _, _, _, _, _, _, _, _, _, _, _, _, _, _, _, _, _, _, _, _, _, _, _, _, _, _, _, _, _, _, _, _, _, _, _, _, _, _, _, _, _, _, _, _, _, _, _, _]) (vs := [_, _, _, _, _, _, _, _, _, _, _, _, _, _, _, _, _, _, _, _, _, _, _, _, _, _, _, _, _, _, _, _, _, _, _, _, _, _, _, _, _, _, _, _, _, _, _, _, _, _, _, _, _, _, _, _, _, _, _, _, _, _, _, _]) und_a64_uint32 te_uint32 te_a64_uint32.zero rfl rfl) ?_
  refine WL_op rfl (OE_storeA ta_a64_uint32 rfl rfl rfl (by simp [Value.oneCell']) (AH.set_same _ _ _) (Nat.le_of_ble_eq_true rfl)) ?_
  rintro _ I1_1 ah1_1 ⟨rfl, rfl, rfl⟩
  refine WL_nil ?_
  refine QA_seq ?_
  refine CW_ret ?_
  refine QA_returnR (rs := [_]) rfl (.agg rfl (AH.set_same _ _ _) ta_a64_uint32 .nil) (IM.le.refl _) (_) (AH.keep_set' (AH.keep_set (fun _ _ h => h) hb0_0) hb0_0) ?_
  exact ⟨rfl, rfl, rfl⟩

def schedWord (w : List UInt32) (i : Nat) : UInt32 :=
  let x := w.getD (i - 15) 0
  let y := w.getD (i - 2) 0
  w.getD (i - 16) 0 + (rotr x 7 ^^^ rotr x 18 ^^^ x >>> UInt32.ofNat 3) + w.getD (i - 7) 0 + (rotr y 17 ^^^ rotr y 19 ^^^ y >>> UInt32.ofNat 10)
def schedStep (b : List UInt8) (w : List UInt32) (i : Nat) : List UInt32 :=
  if i < 16 then w.set i (UInt32.ofNat (ofBig ((b.drop (4 * i)).take 4))) else w.set i (schedWord w i)
def schedTo (b : List UInt8) : Nat → List UInt32
  | 0 => List.replicate 64 0
  | k + 1 => schedStep b (schedTo b k) k
theorem schedTo_len (b : List UInt8) (k : Nat) : (schedTo b k).length = 64 := by
  induction k with
  | zero => rfl
  | succ k ih => simp only [schedTo, schedStep]; split <;> simp [ih]
def sched (b : List UInt8) : List UInt32 := schedTo b 64
theorem map_get (w : List UInt32) (j : Nat) (h : j < w.length) : (w.map w32v)[j]? = some (w32v (w.getD j 0)) := by
  rw [List.getElem?_map, List.getElem?_eq_getElem h]; simp [List.getD, List.getElem?_eq_getElem h]

theorem schedule_spec (w0 : World) (I : IM) (ah : AH) (v : Value) (l : List UInt8) (h : BySl I v l) (hl : l.length = 64) :
    SC P w0 n_sha_schedule [v] I ah (fun v' I' ah' => I = I' ∧ ah = ah' ∧ v' = .agg ((sched l).map w32v).toArray) := by
  obtain ⟨a, c, hva, hc, hnil⟩ := SlI.form h
  subst hva
  rw [hl] at hc
  refine SC_enter fn_sha_schedule rfl rfl (Nat.le_of_ble_eq_true rfl) ?_
  refine CW_seq ?_
  refine CW_region (l := [_]) ?_
  refine WL_op rfl (OE_alloc rfl te_a64_uint32.zero) ?_
  rintro _ I0_0 ah0_0 ⟨b0_0, rfl, rfl, rfl, hb0_0, hw0_0⟩
  refine WL_nil ?_
  refine QA_seq ?_
  refine CW_seq ?_
  refine CW_region (l := [_]) ?_
  refine WL_op rfl (OE_alloc rfl te_a64_uint32.zero) ?_
  rintro _ I1_0 ah1_0 ⟨b1_0, rfl, rfl, rfl, hb1_0, hw1_0⟩
  refine WL_nil ?_
  refine QA_seq ?_
  refine CW_seq ?_
  refine CW_seq ?_
  refine CW_region (l := [_]) ?_
  refine WL_val rfl (PE_move rfl) ?_
  refine WL_nil ?_
  refine QA_seq ?_
  refine CW_forC (64) (by omega) (fun k e I' ah' => e = [(0, .slice a l.length c), (2, .pointer (some ⟨b0_0, 0, none⟩)), (3, .pointer (some ⟨b1_0, 0, none⟩))] ∧ I = I' ∧ (ah.set b0_0 (.cells (List.replicate 64 (.int .u32 0)))).set b1_0 (.cells ((schedTo l k).map w32v)) = ah') ([(0, .slice a l.length c), (2, .pointer (some ⟨b0_0, 0, none⟩)), (3, .pointer (some ⟨b1_0, 0, none⟩))]) (⟨rfl, rfl, rfl⟩) (by repeat (first | exact .nil | refine .cons rfl ?_)) (by rintro k e I ah ⟨rfl, _⟩; exact ⟨rfl, rfl, rfl⟩) rfl rfl rfl rfl ?_ ?_ rfl
  · rintro k e I ah2 hk ⟨rfl, rfl, rfl⟩
    have hsl := schedTo_len l k
    have hs := h
    refine CW_block ?_
    refine CW_seq ?_
    refine CW_region (l := [_, _]) ?_
    refine WL_val rfl (PE_move rfl) ?_
    refine WL_val rfl (PE_assign rfl) ?_
    refine WL_nil ?_
    refine QA_seq ?_
    refine CW_seq ?_
    refine CW_seq ?_
    by_cases h16 : k < 16
    · skip
      refine CW_region (l := [_, _]) ?_
      refine WL_val rfl (PE_move rfl) ?_
      refine WL_val rfl (PE_lss (b := true) rfl rfl (by simp; omega)) ?_
      refine WL_nil ?_
      refine QA_seq ?_
      refine CW_true rfl ?_
      refine CW_seq ?_
      refine CW_region (l := [_, _, _, _, _, _, _, _, _, _, _, _, _]) ?_
      refine WL_val rfl (PE_move rfl) ?_
      refine WL_val rfl (PE_move rfl) ?_
      refine WL_val rfl (PE_mul (r := ((4 * k : Nat) : Int)) rfl rfl (w64e (by push_cast; omega) (by omega) (by omega))) ?_
      refine WL_val rfl (PE_move rfl) ?_
      refine WL_val rfl (PE_mul (r := ((4 * k : Nat) : Int)) rfl rfl (w64e (by push_cast; omega) (by omega) (by omega))) ?_
      refine WL_val rfl (PE_add (r := ((4 * k + 4 : Nat) : Int)) rfl rfl (w64e (by push_cast; omega) (by omega) (by omega))) ?_
      refine WL_val rfl (PE_sliceAddr (n := 64) (l := some (4 * k)) (h := some (4 * k + 4)) und_sl_uint8 te_uint8.size (by rw [hl]; rfl) hc ⟨_, rfl, by omega⟩ ⟨_, rfl, by simp⟩) ?_
      refine WL_op rfl (OE_call (l := [_]) E_octet_FromBig rfl rfl (fromBig_spec _ _ _ _ ((l.drop (4 * k)).take (4 * k + 4 - 4 * k)) (BySl.piece (i := 4 * k) (j := 4 * k + 4) h rfl (by omega) (by omega)) (by simp; omega))) ?_
      rintro _ I6_7 ah6_7 ⟨_, rfl, _, rfl, rfl, rfl⟩
      refine WL_val rfl (PE_move rfl) ?_
      refine WL_val rfl (PE_extract rfl rfl) ?_
      refine WL_val rfl (PE_extract rfl rfl) ?_
      refine WL_val rfl (PE_assign rfl) ?_
      refine WL_val rfl (PE_assign rfl) ?_
      refine WL_nil ?_
      refine QA_seq ?_
      refine CW_seq ?_
      refine CW_region (l := [_, _, _, _, _]) ?_
      refine WL_val rfl (PE_move rfl) ?_
      refine WL_val rfl (PE_move rfl) ?_
      refine WL_val rfl (PE_convI und_uint64 und_uint32 rfl (conv32 _)) ?_
      refine WL_val rfl (PE_ixA0 (i := k) und_a64_uint32 te_uint32.size rfl rfl rfl hk) ?_
      refine WL_op rfl (OE_store tc_uint32 rfl rfl rfl (AH.set_same _ _ _) (by simp; omega)) ?_
      rintro _ I7_4 ah7_4 ⟨rfl, rfl, rfl⟩
      refine WL_nil ?_
      refine QA_seq ?_
      refine CW_exit ?_
      refine QA_then_exit ?_
      refine QA_block_here ?_
      exact QA_nextC _ ⟨rfl, rfl, by rw [AH.set_set, ← List.map_set, schedTo, schedStep, if_pos (by omega), show 4 * k + 4 - 4 * k = 4 by omega]⟩ (by repeat (first | exact .nil | refine .cons rfl ?_))
    · skip
      refine CW_region (l := [_, _]) ?_
      refine WL_val rfl (PE_move rfl) ?_
      refine WL_val rfl (PE_lss (b := false) rfl rfl (by simp; omega)) ?_
      refine WL_nil ?_
      refine QA_seq ?_
      refine CW_false rfl ?_
      refine CW_skip ?_
      refine QA_seq ?_
      refine CW_seq ?_
      refine CW_drawS (l := [_, _, _, _, _, _, _, _, _, _]) 10 mixed ?_
      refine WA_take 0 rfl (by kernel_rfl) (by kernel_rfl) (by kernel_rfl) (by kernel_rfl) rfl (by kernel_rfl) rfl (IM.le.refl _) (fun _ _ h => h) (PE_move rfl) ?_
      refine WA_take 1 rfl (by kernel_rfl) (by kernel_rfl) (by kernel_rfl) (by kernel_rfl) rfl (by kernel_rfl) rfl (IM.le.refl _) (fun _ _ h => h) (PE_sub (r := ((k - 15 : Nat) : Int)) rfl rfl (w64e (by omega) (by omega) (by omega))) ?_
      refine WA_take 2 rfl (by kernel_rfl) (by kernel_rfl) (by kernel_rfl) (by kernel_rfl) rfl (by kernel_rfl) rfl (IM.le.refl _) (fun _ _ h => h) (PE_ixA0 (i := k - 15) und_a64_uint32 te_uint32.size rfl rfl rfl (by omega)) ?_
      refine WA_take 3 rfl (by kernel_rfl) (by kernel_rfl) (by kernel_rfl) (by kernel_rfl) rfl (by kernel_rfl) rfl (IM.le.refl _) (fun _ _ h => h) (PE_load tc_uint32 rfl (.own (AH.set_same _ _ _) (map_get _ _ (by omega)))) ?_
      refine WA_take 4 rfl (by kernel_rfl) (by kernel_rfl) (by kernel_rfl) (by kernel_rfl) rfl (by kernel_rfl) rfl (IM.le.refl _) (fun _ _ h => h) (PE_move rfl) ?_
      refine WA_take 5 rfl (by kernel_rfl) (by kernel_rfl) (by kernel_rfl) (by kernel_rfl) rfl (by kernel_rfl) rfl (IM.le.refl _) (fun _ _ h => h) (PE_sub (r := ((k - 2 : Nat) : Int)) rfl rfl (w64e (by omega) (by omega) (by omega))) ?_
      refine WA_take 6 rfl (by kernel_rfl) (by kernel_rfl) (by kernel_rfl) (by kernel_rfl) rfl (by kernel_rfl) rfl (IM.le.refl _) (fun _ _ h => h) (PE_ixA0 (i := k - 2) und_a64_uint32 te_uint32.size rfl rfl rfl (by omega)) ?_
      refine WA_take 7 rfl (by kernel_rfl) (by kernel_rfl) (by kernel_rfl) (by kernel_rfl) rfl (by kernel_rfl) rfl (IM.le.refl _) (fun _ _ h => h) (PE_load tc_uint32 rfl (.own (AH.set_same _ _ _) (map_get _ _ (by omega)))) ?_
      refine WA_take 8 rfl (by kernel_rfl) (by kernel_rfl) (by kernel_rfl) (by kernel_rfl) rfl (by kernel_rfl) rfl (IM.le.refl _) (fun _ _ h => h) (PE_assign rfl) ?_
      refine WA_take 9 rfl (by kernel_rfl) (by kernel_rfl) (by kernel_rfl) (by kernel_rfl) rfl (by kernel_rfl) rfl (IM.le.refl _) (fun _ _ h => h) (PE_assign rfl) ?_
      refine WA_done (by kernel_rfl) ?_
      refine QA_seq ?_
      refine CW_seq ?_
      refine CW_region (l := [_, _, _, _, _, _, _, _, _]) ?_
      refine WL_val rfl (PE_move rfl) ?_
      refine WL_op rfl (OE_call (l := [_, _]) E_sha_turn rfl rfl (turn_spec _ _ _ _ 7 (by omega) (by omega))) ?_
      rintro _ I9_1 ah9_1 ⟨_, rfl, _, rfl, rfl, rfl⟩
      refine WL_val rfl (PE_move rfl) ?_
      refine WL_op rfl (OE_call (l := [_, _]) E_sha_turn rfl rfl (turn_spec _ _ _ _ 18 (by omega) (by omega))) ?_
      rintro _ I9_3 ah9_3 ⟨_, rfl, _, rfl, rfl, rfl⟩
      refine WL_val rfl (PE_bits rfl rfl (by simp) (xor32 _ _)) ?_
      refine WL_val rfl (PE_move rfl) ?_
      refine WL_val rfl (PE_shift rfl rfl (.inr rfl) (shr32 _ _ 3 (by omega))) ?_
      refine WL_val rfl (PE_bits rfl rfl (by simp) (xor32 _ _)) ?_
      refine WL_val rfl (PE_assign rfl) ?_
      refine WL_nil ?_
      refine QA_seq ?_
      refine CW_seq ?_
      refine CW_region (l := [_, _, _, _, _, _, _, _, _]) ?_
      refine WL_val rfl (PE_move rfl) ?_
      refine WL_op rfl (OE_call (l := [_, _]) E_sha_turn rfl rfl (turn_spec _ _ _ _ 17 (by omega) (by omega))) ?_
      rintro _ I10_1 ah10_1 ⟨_, rfl, _, rfl, rfl, rfl⟩
      refine WL_val rfl (PE_move rfl) ?_
      refine WL_op rfl (OE_call (l := [_, _]) E_sha_turn rfl rfl (turn_spec _ _ _ _ 19 (by omega) (by omega))) ?_
      rintro _ I10_3 ah10_3 ⟨_, rfl, _, rfl, rfl, rfl⟩
      refine WL_val rfl (PE_bits rfl rfl (by simp) (xor32 _ _)) ?_
      refine WL_val rfl (PE_move rfl) ?_
      refine WL_val rfl (PE_shift rfl rfl (.inr rfl) (shr32 _ _ 10 (by omega))) ?_
      refine WL_val rfl (PE_bits rfl rfl (by simp) (xor32 _ _)) ?_
      refine WL_val rfl (PE_assign rfl) ?_
      refine WL_nil ?_
      refine QA_seq ?_
      refine CW_drawS (l := [_, _, _, _, _, _, _, _, _, _, _, _, _, _, _, _]) 15 mixed ?_
      refine WA_take 0 rfl (by kernel_rfl) (by kernel_rfl) (by kernel_rfl) (by kernel_rfl) rfl (by kernel_rfl) rfl (IM.le.refl _) (fun _ _ h => h) (PE_move rfl) ?_
      refine WA_take 1 rfl (by kernel_rfl) (by kernel_rfl) (by kernel_rfl) (by kernel_rfl) rfl (by kernel_rfl) rfl (IM.le.refl _) (fun _ _ h => h) (PE_move rfl) ?_
      refine WA_take 2 rfl (by kernel_rfl) (by kernel_rfl) (by kernel_rfl) (by kernel_rfl) rfl (by kernel_rfl) rfl (IM.le.refl _) (fun _ _ h => h) (PE_sub (r := ((k - 16 : Nat) : Int)) rfl rfl (w64e (by omega) (by omega) (by omega))) ?_
      refine WA_take 3 rfl (by kernel_rfl) (by kernel_rfl) (by kernel_rfl) (by kernel_rfl) rfl (by kernel_rfl) rfl (IM.le.refl _) (fun _ _ h => h) (PE_ixA0 (i := k - 16) und_a64_uint32 te_uint32.size rfl rfl rfl (by omega)) ?_
      refine WA_take 4 rfl (by kernel_rfl) (by kernel_rfl) (by kernel_rfl) (by kernel_rfl) rfl (by kernel_rfl) rfl (IM.le.refl _) (fun _ _ h => h) (PE_load tc_uint32 rfl (.own (AH.set_same _ _ _) (map_get _ _ (by omega)))) ?_
      refine WA_take 5 rfl (by kernel_rfl) (by kernel_rfl) (by kernel_rfl) (by kernel_rfl) rfl (by kernel_rfl) rfl (IM.le.refl _) (fun _ _ h => h) (PE_move rfl) ?_
      refine WA_take 6 rfl (by kernel_rfl) (by kernel_rfl) (by kernel_rfl) (by kernel_rfl) rfl (by kernel_rfl) rfl (IM.le.refl _) (fun _ _ h => h) (PE_add rfl rfl (add32 _ _)) ?_
      refine WA_take 7 rfl (by kernel_rfl) (by kernel_rfl) (by kernel_rfl) (by kernel_rfl) rfl (by kernel_rfl) rfl (IM.le.refl _) (fun _ _ h => h) (PE_move rfl) ?_
      refine WA_take 8 rfl (by kernel_rfl) (by kernel_rfl) (by kernel_rfl) (by kernel_rfl) rfl (by kernel_rfl) rfl (IM.le.refl _) (fun _ _ h => h) (PE_sub (r := ((k - 7 : Nat) : Int)) rfl rfl (w64e (by omega) (by omega) (by omega))) ?_
      refine WA_take 9 rfl (by kernel_rfl) (by kernel_rfl) (by kernel_rfl) (by kernel_rfl) rfl (by kernel_rfl) rfl (IM.le.refl _) (fun _ _ h => h) (PE_ixA0 (i := k - 7) und_a64_uint32 te_uint32.size rfl rfl rfl (by omega)) ?_
      refine WA_take 10 rfl (by kernel_rfl) (by kernel_rfl) (by kernel_rfl) (by kernel_rfl) rfl (by kernel_rfl) rfl (IM.le.refl _) (fun _ _ h => h) (PE_load tc_uint32 rfl (.own (AH.set_same _ _ _) (map_get _ _ (by omega)))) ?_
      refine WA_take 11 rfl (by kernel_rfl) (by kernel_rfl) (by kernel_rfl) (by kernel_rfl) rfl (by kernel_rfl) rfl (IM.le.refl _) (fun _ _ h => h) (PE_add rfl rfl (add32 _ _)) ?_
      refine WA_take 12 rfl (by kernel_rfl) (by kernel_rfl) (by kernel_rfl) (by kernel_rfl) rfl (by kernel_rfl) rfl (IM.le.refl _) (fun _ _ h => h) (PE_move rfl) ?_
      refine WA_take 13 rfl (by kernel_rfl) (by kernel_rfl) (by kernel_rfl) (by kernel_rfl) rfl (by kernel_rfl) rfl (IM.le.refl _) (fun _ _ h => h) (PE_add rfl rfl (add32 _ _)) ?_
      refine WA_take 14 rfl (by kernel_rfl) (by kernel_rfl) (by kernel_rfl) (by kernel_rfl) rfl (by kernel_rfl) rfl (IM.le.refl _) (fun _ _ h => h) (PE_ixA0 (i := k) und_a64_uint32 te_uint32.size rfl rfl rfl hk) ?_
      refine WA_last 15 rfl rfl (by kernel_rfl) (by kernel_rfl) (OE_store tc_uint32 rfl rfl rfl (AH.set_same _ _ _) (by simp; omega)) ?_
      rintro _ I11_15 ah11_15 ⟨rfl, rfl, rfl⟩
      refine WA_done (by kernel_rfl) ?_
      refine QA_block_normal ?_
      exact QA_nextC _ ⟨rfl, rfl, by rw [AH.set_set, ← List.map_set, schedTo, schedStep, if_neg (by omega)]; rfl⟩ (by repeat (first | exact .nil | refine .cons rfl ?_))
  · rintro e I ah2 ⟨rfl, rfl, rfl⟩
    refine QA_seq ?_
    refine CW_seq ?_
    refine CW_region (l := [_, _]) ?_
    have hsl := schedTo_len l 64
    refine WL_val rfl (PE_loadA (vs := (sched l).map w32v) ta_a64_uint32 rfl (by simp [sched, hsl]) (.own (AH.set_same _ _ _))) ?_
    have hne : b0_0 ≠ b1_0 := by rintro rfl; simp at hb1_0
    refine WL_op rfl (OE_storeA ta_a64_uint32 rfl rfl (by simp [sched, hsl]) (by intro u hu; obtain ⟨x, _, rfl⟩ := List.mem_map.1 hu; rfl) (by rw [AH.set_ne _ _ hne]; exact AH.set_same _ _ _) (by simp [sched, hsl])) ?_
    rintro _ I13_1 ah13_1 ⟨rfl, rfl, rfl⟩
    rw [show splice (List.replicate 64 (Value.int .u32 0)) 0 ((sched l).map w32v) = (sched l).map w32v by simp [splice, sched, hsl]]
    refine WL_nil ?_
    refine QA_seq ?_
    refine CW_ret ?_
    refine QA_returnR (rs := [_]) rfl (.agg rfl (AH.set_same _ _ _) (by rw [show ((sched l).map w32v).length = 64 by simp [sched, hsl]]; exact ta_a64_uint32) .nil) (IM.le.refl _) (_) (AH.keep_set' (AH.keep_set (AH.keep_set (fun _ _ h => h) hb0_0) hb1_0) hb0_0) ?_
    exact ⟨rfl, rfl, rfl⟩

end Go.Proofs.YthdpebagkfloaaaDoor

