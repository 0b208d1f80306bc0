/- disk: what changes it: Sync, Drop, Rename. -/
import Derived.Test.YthdpebagkfloaaaDoorPL
namespace Go.Proofs.YthdpebagkfloaaaDoor
open Go Go.RowKit SL
set_option linter.unusedVariables false
set_option linter.unusedSimpArgs false
set_option maxRecDepth 100000
def updF (k : ByteArray) (g : FE → FE) : List FE → List FE
  | [] => []
  | x :: r => if k = x.name then g x :: r else x :: updF k g r
theorem updF_ents (k : ByteArray) (g : FE → FE) (hg : ∀ x, (g x).ent = x.ent) (fs : List FE) : (updF k g fs).map FE.ent = fs.map FE.ent := by
  induction fs with
  | nil => rfl
  | cons x r ih => unfold updF; split <;> simp [hg, ih]
theorem updF_map {α : Type} (p : FE → α) (k : ByteArray) (g : FE → FE) (hg : ∀ x, p (g x) = p x) (fs : List FE) : (updF k g fs).map p = fs.map p := by
  induction fs with
  | nil => rfl
  | cons x r ih => unfold updF; split <;> simp [hg, ih]
theorem mem_updF {k : ByteArray} {g : FE → FE} {x y : FE} : ∀ {fs : List FE}, (fs.map (·.fb)).Nodup → lookF k fs = some x → y ∈ updF k g fs → y = g x ∨ (y ∈ fs ∧ y.fb ≠ x.fb)
  | z :: r, hn, hl, hy => by
    have hn' := List.nodup_cons.1 hn
    unfold lookF at hl
    unfold updF at hy
    by_cases hk : k = z.name
    · rw [if_pos hk] at hl hy
      cases hl
      rcases List.mem_cons.1 hy with h | h
      · exact .inl h
      · exact .inr ⟨by simp [h], fun e => hn'.1 (List.mem_map.2 ⟨y, h, e⟩)⟩
    · rw [if_neg hk] at hl hy
      rcases List.mem_cons.1 hy with rfl | h
      · exact .inr ⟨by simp, fun e => hn'.1 (List.mem_map.2 ⟨x, (lookF_mem hl).1, e.symm⟩)⟩
      · rcases mem_updF hn'.2 hl h with h | ⟨h, h'⟩
        · exact .inl h
        · exact .inr ⟨by simp [h], h'⟩
/-- One file changes. -/
theorem DiskAt.upd {ρ ρ' : Roles} {I I' : IM} {ah ah' : AH} {d room : Nat} {on : Bool} {lives : Nat} {fs : List FE} (h : DiskAt ρ I ah d room on lives fs) {k : ByteArray} {x : FE} (hx : lookF k fs = some x) (e : Evo (ofF x.fb) ρ ah ρ' ah') (hI : IM.le I I')
    (g : FE → FE) (hg : ∀ y, (g y).name = y.name ∧ (g y).born = y.born ∧ (g y).fb = y.fb) (hf : FileAt ρ' I' ah' x.fb (g x).data (g x).parts) : Evo ofD ρ ah ρ' ah' ∧ DiskAt ρ' I' ah' d room on lives (updF k g fs) := by
  obtain ⟨m, clk, h1, h2, h3, h4, h5, h6, h7, h8⟩ := h
  obtain ⟨k1, k2⟩ := e d _ h1 (by rw [h2]; rintro (h | h | h) <;> cases h)
  obtain ⟨k3, k4⟩ := e m _ h3 (by rw [h4]; rintro (h | h | h) <;> cases h)
  refine ⟨e.mono (by rintro r (rfl | rfl | rfl) <;> simp [ofD]), m, clk, k1, k2.trans h2, ?_, k4.trans h4, ?_, ?_, ?_, ?_⟩
  · rw [updF_ents k g (fun y => by simp [FE.ent, hg y])]; exact k3
  · intro y hy
    rcases mem_updF h7 hx hy with rfl | ⟨hm, _⟩
    · rw [(hg x).2.1]; exact h5 x (lookF_mem hx).1
    · exact h5 y hm
  · rw [updF_map _ k g (fun y => (hg y).2.1)]; exact h6
  · rw [updF_map _ k g (fun y => (hg y).2.2)]; exact h7
  · intro y hy
    rcases mem_updF h7 hx hy with rfl | ⟨hm, hne⟩
    · rw [(hg x).2.2]; exact hf
    · exact ((h8 y hm).mono hI).evo e (ofF_ne hne)
def FE.synced (x : FE) : FE := { x with data := x.data ++ x.parts.flatten, parts := [] }
def syncF (on : Bool) (k : ByteArray) (fs : List FE) : List FE := if findE on fs k = 0 then updF k FE.synced fs else fs

theorem dsync_spec (w0 : World) (I : IM) (ah : AH) (ρ : Roles) (d room : Nat) (on : Bool) (lives : Nat) (fs : List FE) (hd : DiskAt ρ I ah d room on lives fs) (hF : Fine room fs) (k : ByteArray) (hk : k.size < 9223372036854775808) :
    SC P w0 n_disk_Disk_Sync [.pointer (some ⟨d, 0, none⟩), .string k] I ah (fun v I' ah' => v = .int .i64 (findE on fs k : Nat) ∧ ∃ ρ', Evo ofD ρ ah ρ' ah' ∧ DiskAt ρ' I' ah' d room on lives (syncF on k fs)) := by
  have hd0 := hd
  obtain ⟨m, clk, h1, h2, h3, h4, h5, h6, h7, h8⟩ := hd
  refine SC_enter fn_disk_Disk_Sync rfl rfl (Nat.le_of_ble_eq_true rfl) ?_
  refine CW_seq ?_
  refine CW_region (l := [_]) ?_
  refine WL_val rfl (PE_assign rfl) ?_
  refine WL_nil ?_
  refine QA_seq ?_
  refine CW_seq ?_
  refine CW_region (l := [_, _, _, _, _, _, _, _]) ?_
  refine WL_val rfl (PE_move rfl) ?_
  refine WL_val rfl (PE_move rfl) ?_
  refine WL_op rfl (OE_call (l := [_, _]) E_disk_Disk_find rfl rfl (find_spec _ _ _ ρ d room on lives fs hd0 k hk)) ?_
  rintro _ I1_2 ah1_2 ⟨_, rfl, hI1, rfl, rfl⟩
  refine WL_val rfl (PE_move rfl) ?_
  refine WL_val rfl (PE_extract rfl rfl) ?_
  refine WL_val rfl (PE_extract rfl rfl) ?_
  refine WL_val rfl (PE_assign rfl) ?_
  refine WL_val rfl (PE_assign rfl) ?_
  refine WL_nil ?_
  refine QA_seq ?_
  refine CW_seq ?_
  refine CW_seq ?_
  refine CW_region (l := [_, _]) ?_
  refine WL_val rfl (PE_move rfl) ?_
  refine WL_val rfl (PE_eqi rfl rfl rfl) ?_
  refine WL_nil ?_
  refine QA_seq ?_
  refine CW_cond rfl (fun c1 => ?_) (fun c1 => ?_)
  · have heq : findE on fs k = 0 := by simpa using c1
    obtain ⟨x, hx, hv⟩ := find_ok heq
    rw [hv]
    have hm := (lookF_mem hx).1
    have hfx := hF.file hm
    refine CW_region (l := [_, _]) ?_
    refine WL_val rfl (PE_move rfl) ?_
    refine WL_op rfl (OE_call (l := [_]) E_disk_file_sync rfl rfl (fsync_spec _ _ _ ρ x.fb x.data x.parts ((h8 x hm).mono hI1) (by omega) (by omega))) ?_
    rintro _ I3_1 ah3_1 ⟨v3, rfl, hI3, ρ1, he, hf1⟩
    refine WL_nil ?_
    refine QA_seq ?_
    refine CW_seq ?_
    refine CW_region (l := [_, _]) ?_
    refine WL_val rfl (PE_move rfl) ?_
    refine WL_val rfl (PE_assign rfl) ?_
    refine WL_nil ?_
    refine QA_seq ?_
    refine CW_ret ?_
    refine QA_return (rs := [_]) rfl rfl (hI1.trans hI3) (_) (fun _ _ h => h) ?_
    exact ⟨rfl, ρ1, by rw [syncF, if_pos heq]; exact DiskAt.upd hd0 hx he (hI1.trans hI3) FE.synced (fun y => ⟨rfl, rfl, rfl⟩) hf1⟩
  · have hne : findE on fs k ≠ 0 := by simpa using c1
    refine CW_skip ?_
    refine QA_seq ?_
    refine CW_seq ?_
    refine CW_region (l := [_, _]) ?_
    refine WL_val rfl (PE_move rfl) ?_
    refine WL_val rfl (PE_assign rfl) ?_
    refine WL_nil ?_
    refine QA_seq ?_
    refine CW_ret ?_
    refine QA_return (rs := [_]) rfl rfl (hI1) (_) (fun _ _ h => h) ?_
    exact ⟨rfl, ρ, Evo.refl _ _ _, by rw [syncF, if_neg hne]; exact hd0.mono hI1⟩

def delF (k : ByteArray) : List FE → List FE
  | [] => []
  | x :: r => if k = x.name then r else x :: delF k r
theorem delF_ents (k : ByteArray) (fs : List FE) : (delF k fs).map FE.ent = delL k (fs.map FE.ent) := by
  induction fs with
  | nil => rfl
  | cons x r ih =>
    rw [List.map_cons, delL, delF]
    by_cases h : k = x.name
    · rw [if_pos h, if_pos (by simpa [FE.ent] using h)]
    · rw [if_neg h, if_neg (by simpa [FE.ent] using h), List.map_cons, ih]
theorem delF_sub (k : ByteArray) : ∀ (fs : List FE), (delF k fs).Sublist fs
  | [] => List.Sublist.slnil
  | x :: r => by
    unfold delF
    split
    · exact List.sublist_cons_self _ _
    · exact (delF_sub k r).cons_cons x
/-- Other files, other entries. -/
theorem DiskAt.ents {ρ : Roles} {I : IM} {ah : AH} {d room : Nat} {on : Bool} {lives : Nat} {fs fs' : List FE} {m clk clk' : Nat} (h1 : ah d = some (.cells [.int .i64 (room : Int), .map (some m), .bool on, .int .i64 (lives : Int)])) (h2 : ρ d = .dsk) (h4 : ρ m = .mp)
    (h5 : ∀ x ∈ fs', x.born < clk') (h6 : (fs'.map (·.born)).Nodup) (h7 : (fs'.map (·.fb)).Nodup) (h8 : ∀ x ∈ fs', FileAt ρ I ah x.fb x.data x.parts) :
    Evo ofD ρ ah ρ (ah.set m (mobj (fs'.map FE.ent) clk')) ∧ DiskAt ρ I (ah.set m (mobj (fs'.map FE.ent) clk')) d room on lives fs' := by
  have e : Evo (fun r => r = .mp) ρ ah ρ (ah.set m (mobj (fs'.map FE.ent) clk')) := Evo.set _ h4
  exact ⟨e.mono (by rintro r rfl; simp [ofD]), m, clk', (e d _ h1 (by rw [h2]; simp)).1, h2, AH.set_same _ _ _, h4, h5, h6, h7, fun x hx => (h8 x hx).evo e (by rintro r (rfl | rfl | rfl) <;> simp)⟩
def dropF (on : Bool) (k : ByteArray) (fs : List FE) : List FE := if findE on fs k = 0 then delF k fs else fs

theorem drop_spec (w0 : World) (I : IM) (ah : AH) (ρ : Roles) (d room : Nat) (on : Bool) (lives : Nat) (fs : List FE) (hd : DiskAt ρ I ah d room on lives fs) (k : ByteArray) (hk : k.size < 9223372036854775808) :
    SC P w0 n_disk_Disk_Drop [.pointer (some ⟨d, 0, none⟩), .string k] I ah (fun v I' ah' => v = .int .i64 (findE on fs k : Nat) ∧ Evo ofD ρ ah ρ ah' ∧ DiskAt ρ I' ah' d room on lives (dropF on k fs)) := by
  have hd0 := hd
  obtain ⟨m, clk, h1, h2, h3, h4, h5, h6, h7, h8⟩ := hd
  refine SC_enter fn_disk_Disk_Drop rfl rfl (Nat.le_of_ble_eq_true rfl) ?_
  refine CW_seq ?_
  refine CW_region (l := [_]) ?_
  refine WL_val rfl (PE_assign rfl) ?_
  refine WL_nil ?_
  refine QA_seq ?_
  refine CW_seq ?_
  refine CW_region (l := [_, _, _, _, _, _, _, _]) ?_
  refine WL_val rfl (PE_move rfl) ?_
  refine WL_val rfl (PE_move rfl) ?_
  refine WL_op rfl (OE_call (l := [_, _]) E_disk_Disk_find rfl rfl (find_spec _ _ _ ρ d room on lives fs hd0 k hk)) ?_
  rintro _ I1_2 ah1_2 ⟨_, rfl, hI1, rfl, rfl⟩
  refine WL_val rfl (PE_move rfl) ?_
  refine WL_val rfl (PE_extract rfl rfl) ?_
  refine WL_val rfl (PE_extract rfl rfl) ?_
  refine WL_val rfl (PE_assign rfl) ?_
  refine WL_val rfl (PE_assign rfl) ?_
  refine WL_nil ?_
  refine QA_seq ?_
  refine CW_seq ?_
  refine CW_seq ?_
  refine CW_region (l := [_, _]) ?_
  refine WL_val rfl (PE_move rfl) ?_
  refine WL_val rfl (PE_eqi rfl rfl rfl) ?_
  refine WL_nil ?_
  refine QA_seq ?_
  refine CW_cond rfl (fun c1 => ?_) (fun c1 => ?_)
  · have heq : findE on fs k = 0 := by simpa using c1
    refine CW_region (l := [_, _, _, _, _, _]) ?_
    refine WL_val rfl (PE_move rfl) ?_
    refine WL_val rfl (PE_nilCheck rfl) ?_
    refine WL_val rfl (PE_fieldAddr fa_disk_Disk_1 rfl) ?_
    refine WL_val rfl (PE_load tc_m_string_p_disk_file rfl (.own h1 rfl)) ?_
    refine WL_val rfl (PE_move rfl) ?_
    refine WL_op rfl (OE_delete und_m_string_p_disk_file und_string rfl rfl h3) ?_
    rintro _ I3_5 ah3_5 ⟨rfl, rfl, rfl⟩
    rw [← delF_ents]
    refine WL_nil ?_
    refine QA_seq ?_
    refine CW_seq ?_
    refine CW_region (l := [_, _]) ?_
    refine WL_val rfl (PE_move rfl) ?_
    refine WL_val rfl (PE_assign rfl) ?_
    refine WL_nil ?_
    refine QA_seq ?_
    refine CW_ret ?_
    refine QA_return (rs := [_]) rfl rfl (hI1) (_) (fun _ _ h => h) ?_
    have hsub := delF_sub k fs
    have := DiskAt.ents (fs := fs) (fs' := delF k fs) (I := I1_2) (clk := clk) (clk' := clk) h1 h2 h4 (fun x hx => h5 x (hsub.mem hx)) (h6.sublist (hsub.map _)) (h7.sublist (hsub.map _)) (fun x hx => (h8 x (hsub.mem hx)).mono hI1)
    exact ⟨rfl, this.1, by rw [dropF, if_pos heq]; exact this.2⟩
  · have hne : findE on fs k ≠ 0 := by simpa using c1
    refine CW_skip ?_
    refine QA_seq ?_
    refine CW_seq ?_
    refine CW_region (l := [_, _]) ?_
    refine WL_val rfl (PE_move rfl) ?_
    refine WL_val rfl (PE_assign rfl) ?_
    refine WL_nil ?_
    refine QA_seq ?_
    refine CW_ret ?_
    refine QA_return (rs := [_]) rfl rfl (hI1) (_) (fun _ _ h => h) ?_
    exact ⟨rfl, Evo.refl _ _ _, by rw [dropF, if_neg hne]; exact hd0.mono hI1⟩

end Go.Proofs.YthdpebagkfloaaaDoor

