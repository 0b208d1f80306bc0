/- disk: its size, its reads; On, New. -/
import Derived.Test.YthdpebagkfloaaaDoorPK
namespace Go.Proofs.YthdpebagkfloaaaDoor
open Go Go.RowKit SL
set_option linter.unusedVariables false
set_option linter.unusedSimpArgs false
set_option maxRecDepth 100000
def sumSeen (s : List Nat) : List FE → Nat
  | [] => 0
  | x :: r => (if x.born ∈ s then x.sz else 0) + sumSeen s r
theorem sumSeen_nil (fs : List FE) : sumSeen [] fs = 0 := by induction fs <;> simp_all [sumSeen]
theorem sumSeen_le (s : List Nat) (fs : List FE) : sumSeen s fs ≤ fsSize fs := by
  induction fs with
  | nil => simp [sumSeen, fsSize]
  | cons x r ih => unfold sumSeen fsSize; split <;> omega
theorem sumSeen_all (s : List Nat) : ∀ (fs : List FE), (∀ x ∈ fs, x.born ∈ s) → sumSeen s fs = fsSize fs
  | [], _ => rfl
  | x :: r, h => by rw [sumSeen, fsSize, if_pos (h x (by simp)), sumSeen_all s r (fun y hy => h y (by simp [hy]))]
theorem sumSeen_other (s : List Nat) (b : Nat) : ∀ (fs : List FE), b ∉ fs.map (·.born) → sumSeen (s ++ [b]) fs = sumSeen s fs
  | [], _ => rfl
  | x :: r, h => by
    simp only [List.map_cons, List.mem_cons, not_or] at h
    rw [sumSeen, sumSeen, sumSeen_other s b r h.2]
    congr 1
    simp only [List.mem_append, List.mem_singleton, Ne.symm h.1, or_false]
theorem sumSeen_add (s : List Nat) (x : FE) (hs : x.born ∉ s) : ∀ (fs : List FE), (fs.map (·.born)).Nodup → x ∈ fs → sumSeen (s ++ [x.born]) fs = sumSeen s fs + x.sz
  | y :: r, hn, hx => by
    have hn' := List.nodup_cons.1 hn
    rcases List.mem_cons.1 hx with rfl | hx
    · rw [sumSeen, sumSeen, sumSeen_other s _ r hn'.1]; simp [hs]; omega
    · have hne : y.born ≠ x.born := fun e => hn'.1 (by show y.born ∈ _; rw [e]; exact List.mem_map.2 ⟨x, hx, rfl⟩)
      rw [sumSeen, sumSeen, sumSeen_add s x hs r hn'.2 hx]
      simp [hne]; omega
theorem ents_born {fs : List FE} (h : (fs.map (·.born)).Nodup) : ((fs.map FE.ent).map (fun q => q.2.2)).Nodup := by
  rw [List.map_map]; exact h

theorem dsize_spec (w0 : World) (I : IM) (ah : AH) (ρ : Roles) (d room : Nat) (on : Bool) (lives : Nat) (fs : List FE) (hd : DiskAt ρ I ah d room on lives fs) (hF : Fine room fs) :
    SC P w0 n_disk_Disk_size [.pointer (some ⟨d, 0, none⟩)] I ah (fun v I' ah' => I = I' ∧ ah = ah' ∧ v = .int .i64 (fsSize fs : Nat)) := by
  obtain ⟨m, clk, h1, h2, h3, h4, h5, h6, h7, h8⟩ := hd
  have hF1 := hF.1
  have hF2 := hF.2.1
  refine SC_enter fn_disk_Disk_size rfl rfl (Nat.le_of_ble_eq_true rfl) ?_
  refine CW_seq ?_
  refine CW_region (l := [_]) ?_
  refine WL_val rfl (PE_assign rfl) ?_
  refine WL_nil ?_
  refine QA_seq ?_
  refine CW_seq ?_
  refine CW_region (l := [_]) ?_
  refine WL_val rfl (PE_assign rfl) ?_
  refine WL_nil ?_
  refine QA_seq ?_
  refine CW_seq ?_
  refine CW_seq ?_
  refine CW_region (l := [_, _, _, _, _]) ?_
  refine WL_val rfl (PE_move rfl) ?_
  refine WL_val rfl (PE_nilCheck rfl) ?_
  refine WL_val rfl (PE_fieldAddr fa_disk_Disk_1 rfl) ?_
  refine WL_val rfl (PE_load tc_m_string_p_disk_file rfl (.own h1 rfl)) ?_
  refine WL_op rfl (OE_range und_m_string_p_disk_file rfl rfl h3) ?_
  rintro _ I2_4 ah2_4 ⟨b2_4, rfl, rfl, rfl, hb2_4, hw2_4⟩
  refine WL_nil ?_
  refine QA_seq ?_
  refine CW_mapFor (m) (b2_4) (clk) (fs.map FE.ent) (fun p hp => by obtain ⟨x, hx, rfl⟩ := List.mem_map.1 hp; exact h5 x hx) (fun s e I' A' => e = [(3, .int .i64 ((sumSeen s fs : Nat) : Int))] ∧ I = I' ∧ ah.set b2_4 (iobj m clk s) = A') ([(3, .int .i64 0)]) (⟨by rw [sumSeen_nil]; rfl, rfl, rfl⟩) (by repeat (first | exact .nil | refine .cons rfl ?_)) (by rintro k e I ah ⟨rfl, _⟩; exact ⟨rfl, rfl, rfl⟩) (by rintro s e I A ⟨rfl, rfl, rfl⟩; exact ⟨AH.set_same _ _ _, AH.keep1 _ hb2_4 h3⟩) rfl rfl rfl ?_ ?_
  · rintro s e I A p ⟨rfl, rfl, rfl⟩ hp hps
    obtain ⟨x, hx, rfl⟩ := List.mem_map.1 hp
    rw [AH.set_set]
    have hfile : FileAt ρ I (ah.set b2_4 (iobj m clk (s ++ [x.ent.2.2]))) x.fb x.data x.parts := (h8 x hx).evo (S := fun _ => False) (Evo.more (AH.keep_set (fun _ _ h => h) hb2_4)) (fun _ _ h => h)
    have hfx := hF.file hx
    have hadd := sumSeen_add s x hps fs h6 hx
    have hle := sumSeen_le (s ++ [x.born]) fs
    refine CW_block ?_
    refine CW_seq ?_
    refine CW_region (l := [_, _, _]) ?_
    refine WL_val rfl (PE_entry rfl (AH.set_same _ _ _) (AH.keep1 _ hb2_4 h3) hp (ents_born h6)) ?_
    refine WL_val rfl (PE_extract rfl rfl) ?_
    refine WL_val rfl (PE_assign rfl) ?_
    refine WL_nil ?_
    refine QA_seq ?_
    refine CW_region (l := [_, _, _, _, _]) ?_
    refine WL_val rfl (PE_move rfl) ?_
    refine WL_val rfl (PE_move rfl) ?_
    refine WL_op rfl (OE_call (l := [_]) E_disk_file_size rfl rfl (fsize_spec _ _ _ ρ x.fb x.data x.parts hfile (by omega) (by omega))) ?_
    rintro _ I5_2 ah5_2 ⟨_, rfl, _, rfl, rfl, rfl⟩
    refine WL_val rfl (PE_add (r := ((sumSeen s fs + x.sz : Nat) : Int)) rfl rfl (w64e (by unfold FE.sz; omega) (by omega) (by omega))) ?_
    refine WL_val rfl (PE_assign rfl) ?_
    refine WL_nil ?_
    refine QA_block_normal ?_
    exact QA_nextM _ ⟨by rw [show x.ent.2.2 = x.born from rfl, hadd], rfl, rfl⟩ (by repeat (first | exact .nil | refine .cons rfl ?_))
  · rintro s e I A ⟨rfl, rfl, rfl⟩ hall
    rw [sumSeen_all s fs (fun x hx => hall x.ent (List.mem_map.2 ⟨x, hx, rfl⟩))]
    refine QA_seq ?_
    refine CW_seq ?_
    refine CW_region (l := [_, _]) ?_
    refine WL_val rfl (PE_move rfl) ?_
    refine WL_val rfl (PE_assign rfl) ?_
    refine WL_nil ?_
    refine QA_seq ?_
    refine CW_ret ?_
    refine QA_return (rs := [_]) rfl rfl (IM.le.refl _) (_) (AH.keep_set (fun _ _ h => h) hb2_4) ?_
    exact ⟨rfl, rfl, rfl⟩

def readB (on : Bool) (fs : List FE) (k : ByteArray) : List UInt8 := if findE on fs k ≠ 0 then [] else match lookF k fs with
  | some x => x.data ++ x.parts.flatten
  | none => []
theorem find_ok {on : Bool} {fs : List FE} {k : ByteArray} (h : findE on fs k = 0) : ∃ x, lookF k fs = some x ∧ findV on fs k = .pointer (some ⟨x.fb, 0, none⟩) := by
  unfold findE at h
  split at h
  · rename_i h1; exact absurd h h1
  · rename_i h1
    cases hl : lookF k fs with
    | none => rw [hl] at h; simp at h
    | some x => exact ⟨x, rfl, by rw [findV, if_neg h1, hl]⟩
theorem find_le (on : Bool) (fs : List FE) (k : ByteArray) : findE on fs k ≤ 7 := by
  unfold findE askN; (repeat' split) <;> omega

theorem read_spec (w0 : World) (I : IM) (ah : AH) (ρ : Roles) (d room : Nat) (on : Bool) (lives : Nat) (fs : List FE) (hd : DiskAt ρ I ah d room on lives fs) (hF : Fine room fs) (k : ByteArray) (hk : k.size < 9223372036854775808) :
    SC P w0 n_disk_Disk_Read [.pointer (some ⟨d, 0, none⟩), .string k] I ah (fun v I' ah' => ah = ah' ∧ ∃ rv, v = .tuple #[rv, .int .i64 (findE on fs k : Nat)] ∧ BySl I' rv (readB on fs k)) := by
  have hd0 := hd
  obtain ⟨m, clk, h1, h2, h3, h4, h5, h6, h7, h8⟩ := hd
  refine SC_enter fn_disk_Disk_Read rfl rfl (Nat.le_of_ble_eq_true rfl) ?_
  refine CW_seq ?_
  refine CW_region (l := [_, _]) ?_
  refine WL_val rfl (PE_assign rfl) ?_
  refine WL_val rfl (PE_assign rfl) ?_
  refine WL_nil ?_
  refine QA_seq ?_
  refine CW_seq ?_
  refine CW_region (l := [_, _, _, _, _, _, _, _]) ?_
  refine WL_val rfl (PE_move rfl) ?_
  refine WL_val rfl (PE_move rfl) ?_
  refine WL_op rfl (OE_call (l := [_, _]) E_disk_Disk_find rfl rfl (find_spec _ _ _ ρ d room on lives fs hd0 k hk)) ?_
  rintro _ I1_2 ah1_2 ⟨_, rfl, hI1, rfl, rfl⟩
  refine WL_val rfl (PE_move rfl) ?_
  refine WL_val rfl (PE_extract rfl rfl) ?_
  refine WL_val rfl (PE_extract rfl rfl) ?_
  refine WL_val rfl (PE_assign rfl) ?_
  refine WL_val rfl (PE_assign rfl) ?_
  refine WL_nil ?_
  refine QA_seq ?_
  refine CW_seq ?_
  refine CW_seq ?_
  refine CW_region (l := [_, _]) ?_
  refine WL_val rfl (PE_move rfl) ?_
  refine WL_val rfl (PE_nei rfl rfl rfl) ?_
  refine WL_nil ?_
  refine QA_seq ?_
  refine CW_cond rfl (fun c1 => ?_) (fun c1 => ?_)
  · have hne : findE on fs k ≠ 0 := by simpa using c1
    refine CW_seq ?_
    refine CW_region (l := [_, _, _]) ?_
    refine WL_val rfl (PE_move rfl) ?_
    refine WL_val rfl (PE_assign rfl) ?_
    refine WL_val rfl (PE_assign rfl) ?_
    refine WL_nil ?_
    refine QA_seq ?_
    refine CW_ret ?_
    refine QA_then_ret ?_
    refine QA_return (rs := [_, _]) rfl rfl (hI1) (_) (fun _ _ h => h) ?_
    exact ⟨rfl, _, rfl, by rw [readB, if_pos hne]; exact BySl.nil _⟩
  · have heq : findE on fs k = 0 := by simpa using c1
    obtain ⟨x, hx, hv⟩ := find_ok heq
    rw [hv]
    have hm := (lookF_mem hx).1
    have hfx := hF.file hm
    refine CW_skip ?_
    refine QA_seq ?_
    refine CW_seq ?_
    refine CW_region (l := [_, _, _, _]) ?_
    refine WL_val rfl (PE_move rfl) ?_
    refine WL_op rfl (OE_call (l := [_]) E_disk_file_all rfl rfl (fall_spec _ _ _ ρ x.fb x.data x.parts ((h8 x hm).mono hI1) (by omega) (by omega))) ?_
    rintro _ I4_1 ah4_1 ⟨v4, rfl, hI4, ho4⟩
    refine WL_val rfl (PE_assign rfl) ?_
    refine WL_val rfl (PE_assign rfl) ?_
    refine WL_nil ?_
    refine QA_seq ?_
    refine CW_ret ?_
    refine QA_return (rs := [_, _]) rfl rfl (hI1.trans hI4) (ah) (Own.base ho4) ?_
    exact ⟨rfl, v4, by rw [heq]; rfl, by rw [readB, if_neg (by simp [heq]), hx]; exact OwnB.sl ho4⟩

/-- The disk's own cells change. -/
theorem DiskAt.head {ρ : Roles} {I : IM} {ah : AH} {d room : Nat} {on on' : Bool} {lives lives' : Nat} {fs : List FE} (h : DiskAt ρ I ah d room on lives fs) {m : Nat} {x0 : List Value} (hm : ah d = some (.cells [.int .i64 (room : Int), .map (some m), .bool on, .int .i64 (lives : Int)])) :
    Evo ofD ρ ah ρ (ah.set d (.cells [.int .i64 (room : Int), .map (some m), .bool on', .int .i64 (lives' : Int)])) ∧ DiskAt ρ I (ah.set d (.cells [.int .i64 (room : Int), .map (some m), .bool on', .int .i64 (lives' : Int)])) d room on' lives' fs := by
  obtain ⟨m', clk, h1, h2, h3, h4, h5, h6, h7, h8⟩ := h
  rw [h1] at hm
  simp only [Option.some.injEq, AObj.cells.injEq, List.cons.injEq, Value.map.injEq, true_and] at hm
  obtain ⟨rfl, _⟩ := hm
  have e : Evo (fun r => r = .dsk) ρ ah ρ (ah.set d (.cells [.int .i64 (room : Int), .map (some m'), .bool on', .int .i64 (lives' : Int)])) := Evo.set _ h2
  refine ⟨e.mono (by rintro r rfl; simp [ofD]), m', clk, AH.set_same _ _ _, h2, (e m' _ h3 (by rw [h4]; simp)).1, h4, h5, h6, h7, fun x hx => (h8 x hx).evo e (by rintro r (rfl | rfl | rfl) <;> simp)⟩

theorem on_spec (w0 : World) (I : IM) (ah : AH) (ρ : Roles) (d room : Nat) (on : Bool) (lives : Nat) (fs : List FE) (hd : DiskAt ρ I ah d room on lives fs) (hl : lives < 1000000) :
    SC P w0 n_disk_Disk_On [.pointer (some ⟨d, 0, none⟩)] I ah (fun v I' ah' => I = I' ∧ Evo ofD ρ ah ρ ah' ∧ DiskAt ρ I' ah' d room true (lives + 1) fs) := by
  have hd0 := hd
  obtain ⟨m, clk, h1, h2, h3, h4, h5, h6, h7, h8⟩ := hd
  refine SC_enter fn_disk_Disk_On rfl rfl (Nat.le_of_ble_eq_true rfl) ?_
  refine CW_seq ?_
  refine CW_region (l := [_, _, _, _]) ?_
  refine WL_val rfl (PE_move rfl) ?_
  refine WL_val rfl (PE_nilCheck rfl) ?_
  refine WL_val rfl (PE_fieldAddr fa_disk_Disk_2 rfl) ?_
  refine WL_op rfl (OE_store tc_bool rfl rfl rfl h1 (by simp)) ?_
  rintro _ I0_3 ah0_3 ⟨rfl, rfl, rfl⟩
  refine WL_nil ?_
  refine QA_seq ?_
  refine CW_region (l := [_, _, _, _, _, _, _, _]) ?_
  refine WL_val rfl (PE_move rfl) ?_
  refine WL_val rfl (PE_nilCheck rfl) ?_
  refine WL_val rfl (PE_fieldAddr fa_disk_Disk_3 rfl) ?_
  refine WL_val rfl (PE_load tc_int rfl (.own (AH.set_same _ _ _) rfl)) ?_
  refine WL_val rfl (PE_add (r := ((lives + 1 : Nat) : Int)) rfl rfl (w64e (by push_cast; rfl) (by omega) (by omega))) ?_
  refine WL_val rfl (PE_nilCheck rfl) ?_
  refine WL_val rfl (PE_fieldAddr fa_disk_Disk_3 rfl) ?_
  refine WL_op rfl (OE_store tc_int rfl rfl rfl (AH.set_same _ _ _) (by simp)) ?_
  rintro _ I1_7 ah1_7 ⟨rfl, rfl, rfl⟩
  refine WL_nil ?_
  refine QA_end (rs := []) rfl rfl (IM.le.refl _) (_) (fun _ _ h => h) ?_
  rw [AH.set_set]
  exact ⟨rfl, (DiskAt.head (x0 := []) hd0 h1).1, (DiskAt.head (x0 := []) hd0 h1).2⟩

theorem dnew_spec (w0 : World) (I : IM) (ah : AH) (ρ : Roles) (n : Nat) (h64 : 64 ≤ n) (hn : n ≤ 1048576) :
    SC P w0 n_disk_New [.int .i64 (n : Nat)] I ah (fun v I' ah' => ∃ d ρ', v = .tuple #[.pointer (some ⟨d, 0, none⟩), .int .i64 0] ∧ Evo (fun _ => False) ρ ah ρ' ah' ∧ DiskAt ρ' I' ah' d n true 1 []) := by
  refine SC_enter fn_disk_New rfl rfl (Nat.le_of_ble_eq_true rfl) ?_
  refine CW_seq ?_
  refine CW_region (l := [_, _]) ?_
  refine WL_val rfl (PE_assign rfl) ?_
  refine WL_val rfl (PE_assign rfl) ?_
  refine WL_nil ?_
  refine QA_seq ?_
  refine CW_seq ?_
  refine CW_seq ?_
  refine CW_region (l := [_, _, _, _, _, _]) ?_
  refine WL_val rfl (PE_move rfl) ?_
  refine WL_val rfl (PE_lss (b := false) rfl rfl (by simp; omega)) ?_
  refine WL_val rfl (PE_move rfl) ?_
  refine WL_gon rfl rfl rfl ?_
  refine WL_val rfl (PE_move rfl) ?_
  refine WL_gon rfl rfl rfl ?_
  refine WL_val rfl (PE_gtr (b := false) rfl rfl (by simp; omega)) ?_
  refine WL_val rfl (PE_pick rfl (fun _ => rfl) (fun _ => rfl)) ?_
  refine WL_nil ?_
  refine QA_seq ?_
  refine CW_false rfl ?_
  refine CW_skip ?_
  refine QA_seq ?_
  refine CW_seq ?_
  refine CW_region (l := [_, _, _, _, _, _]) ?_
  refine WL_val rfl (PE_move rfl) ?_
  refine WL_op rfl (OE_makeMap rfl) ?_
  rintro _ I3_1 ah3_1 ⟨b3_1, rfl, rfl, rfl, hb3_1, hw3_1⟩
  refine WL_val rfl (PE_buildS (l := [_, _, _, _]) (vs := [_, _, _, _]) ts_disk_Disk rfl rfl) ?_
  refine WL_op rfl (OE_box rfl rfl) ?_
  rintro _ I3_3 ah3_3 ⟨b3_3, rfl, rfl, rfl, hb3_3, hw3_3⟩
  refine WL_val rfl (PE_assign rfl) ?_
  refine WL_val rfl (PE_assign rfl) ?_
  refine WL_nil ?_
  refine QA_seq ?_
  refine CW_ret ?_
  refine QA_return (rs := [_, _]) rfl rfl (IM.le.refl _) (_) (fun _ _ h => h) ?_
  have hne := free_ne hb3_3
  have e1 := Evo.new (S := fun _ => False) (ρ := ρ) (mobj [] 0) .mp hb3_1
  have e2 := Evo.new (S := fun _ => False) (ρ := ρ.set b3_1 .mp) (.cells [.int .i64 (n : Int), .map (some b3_1), .bool true, .int .i64 1]) .dsk hb3_3
  exact ⟨b3_3, _, rfl, e1.trans e2, b3_1, 0, AH.set_same _ _ _, by simp [Roles.set], AH.keep1 _ hb3_3 (AH.set_same _ _ _), by simp [Roles.set, hne], by simp, by simp, by simp, by simp⟩

end Go.Proofs.YthdpebagkfloaaaDoor

