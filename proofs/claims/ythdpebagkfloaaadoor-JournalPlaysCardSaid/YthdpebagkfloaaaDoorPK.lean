/- disk: the disk in memory; what only looks at it. -/
import Derived.Test.YthdpebagkfloaaaDoorPJ
namespace Go.Proofs.YthdpebagkfloaaaDoor
open Go Go.RowKit SL
set_option linter.unusedVariables false
set_option linter.unusedSimpArgs false
set_option maxRecDepth 100000
/-- A file under its name. -/
structure FE where
  name : ByteArray
  born : Nat
  fb : Nat
  data : List UInt8
  parts : List (List UInt8)
def FE.ent (x : FE) : ByteArray × Value × Nat := (x.name, .pointer (some ⟨x.fb, 0, none⟩), x.born)
def FE.sz (x : FE) : Nat := x.data.length + x.parts.flatten.length
def fsSize : List FE → Nat
  | [] => 0
  | x :: r => x.sz + fsSize r
def lookF (k : ByteArray) : List FE → Option FE
  | [] => none
  | x :: r => if k = x.name then some x else lookF k r
theorem getL_ents (k : ByteArray) (fs : List FE) : getL k (fs.map FE.ent) = (lookF k fs).map fun x => .pointer (some ⟨x.fb, 0, none⟩) := by
  induction fs with
  | nil => rfl
  | cons x r ih =>
    rw [List.map_cons, getL, lookF]
    by_cases h : k = x.name
    · simp [h, FE.ent]
    · rw [if_neg (by simpa [FE.ent] using h), if_neg h, ih]
theorem lookF_mem {k : ByteArray} {x : FE} : ∀ {fs : List FE}, lookF k fs = some x → x ∈ fs ∧ x.name = k
  | [], h => by cases h
  | y :: r, h => by
    unfold lookF at h
    split at h
    · cases h; rename_i hk; exact ⟨by simp, hk.symm⟩
    · obtain ⟨a, b⟩ := lookF_mem h; exact ⟨by simp [a], b⟩
theorem fsSize_mem {x : FE} : ∀ {fs : List FE}, x ∈ fs → x.sz ≤ fsSize fs
  | y :: r, h => by
    rcases List.mem_cons.1 h with rfl | h
    · unfold fsSize; omega
    · have := fsSize_mem h; unfold fsSize; omega
/-- What every disk keeps to. -/
def Fine (room : Nat) (fs : List FE) : Prop := fsSize fs ≤ room ∧ room ≤ 1048576 ∧ (∀ x ∈ fs, ∀ p ∈ x.parts, p ≠ [])
theorem len_flat : ∀ (ls : List (List UInt8)), (∀ p ∈ ls, p ≠ []) → ls.length ≤ ls.flatten.length
  | [], _ => by simp
  | p :: r, h => by
    have := len_flat r (fun q hq => h q (by simp [hq]))
    have hp : 0 < p.length := List.length_pos_iff.2 (h p (by simp))
    simp only [List.flatten_cons, List.length_append, List.length_cons]; omega
theorem Fine.file {room : Nat} {fs : List FE} (h : Fine room fs) {x : FE} (hx : x ∈ fs) : x.data.length + x.parts.flatten.length ≤ 1048576 ∧ x.parts.length ≤ 1048576 := by
  have h1 := fsSize_mem hx
  have h2 := len_flat x.parts (h.2.2 x hx)
  have h3 := h.1
  have h4 := h.2.1
  unfold FE.sz at h1; omega
def DiskAt (ρ : Roles) (I : IM) (ah : AH) (d room : Nat) (on : Bool) (lives : Nat) (fs : List FE) : Prop :=
  ∃ m clk, ah d = some (.cells [.int .i64 (room : Int), .map (some m), .bool on, .int .i64 (lives : Int)]) ∧ ρ d = .dsk ∧ ah m = some (mobj (fs.map FE.ent) clk) ∧ ρ m = .mp ∧ (∀ x ∈ fs, x.born < clk) ∧ (fs.map (·.born)).Nodup ∧ (fs.map (·.fb)).Nodup ∧ ∀ x ∈ fs, FileAt ρ I ah x.fb x.data x.parts
def ofD (r : Role) : Prop := r ≠ .out ∧ r ≠ .jrn ∧ r ≠ .jrec
theorem DiskAt.mono {ρ : Roles} {I J : IM} {ah : AH} {d room : Nat} {on : Bool} {lives : Nat} {fs : List FE} (h : DiskAt ρ I ah d room on lives fs) (hI : IM.le I J) : DiskAt ρ J ah d room on lives fs := by
  obtain ⟨m, clk, h1, h2, h3, h4, h5, h6, h7, h8⟩ := h
  exact ⟨m, clk, h1, h2, h3, h4, h5, h6, h7, fun x hx => (h8 x hx).mono hI⟩
theorem DiskAt.evo {S : Role → Prop} {ρ ρ' : Roles} {I : IM} {ah ah' : AH} {d room : Nat} {on : Bool} {lives : Nat} {fs : List FE} (h : DiskAt ρ I ah d room on lives fs) (e : Evo S ρ ah ρ' ah') (hS : ∀ r, ofD r → ¬ S r) : DiskAt ρ' I ah' d room on lives fs := by
  obtain ⟨m, clk, h1, h2, h3, h4, h5, h6, h7, h8⟩ := h
  obtain ⟨k1, k2⟩ := e d _ h1 (by rw [h2]; exact hS _ (by simp [ofD]))
  obtain ⟨k3, k4⟩ := e m _ h3 (by rw [h4]; exact hS _ (by simp [ofD]))
  exact ⟨m, clk, k1, k2.trans h2, k3, k4.trans h4, h5, h6, h7, fun x hx => (h8 x hx).evo e (fun r hr => hS r (by rcases hr with rfl | rfl | rfl <;> simp [ofD]))⟩
def askN (on : Bool) (names : List ByteArray) : Nat := if on then (if names.all (fun s => goodName s.data.toList) then 0 else 1) else 7

theorem power_spec (w0 : World) (I : IM) (ah : AH) (ρ : Roles) (d room : Nat) (on : Bool) (lives : Nat) (fs : List FE) (hd : DiskAt ρ I ah d room on lives fs) :
    SC P w0 n_disk_Disk_Power [.pointer (some ⟨d, 0, none⟩)] I ah (fun v I' ah' => I = I' ∧ ah = ah' ∧ v = .bool on) := by
  obtain ⟨m, clk, h1, h2, h3, h4, h5, h6, h7, h8⟩ := hd
  refine SC_enter fn_disk_Disk_Power rfl rfl (Nat.le_of_ble_eq_true rfl) ?_
  refine CW_seq ?_
  refine CW_region (l := [_]) ?_
  refine WL_val rfl (PE_assign rfl) ?_
  refine WL_nil ?_
  refine QA_seq ?_
  refine CW_seq ?_
  refine CW_region (l := [_, _, _, _, _]) ?_
  refine WL_val rfl (PE_move rfl) ?_
  refine WL_val rfl (PE_nilCheck rfl) ?_
  refine WL_val rfl (PE_fieldAddr fa_disk_Disk_2 rfl) ?_
  refine WL_val rfl (PE_load tc_bool rfl (.own h1 rfl)) ?_
  refine WL_val rfl (PE_assign rfl) ?_
  refine WL_nil ?_
  refine QA_seq ?_
  refine CW_ret ?_
  refine QA_return (rs := [_]) rfl rfl (IM.le.refl _) (_) (fun _ _ h => h) ?_
  exact ⟨rfl, rfl, rfl⟩

theorem lives_spec (w0 : World) (I : IM) (ah : AH) (ρ : Roles) (d room : Nat) (on : Bool) (lives : Nat) (fs : List FE) (hd : DiskAt ρ I ah d room on lives fs) :
    SC P w0 n_disk_Disk_Lives [.pointer (some ⟨d, 0, none⟩)] I ah (fun v I' ah' => I = I' ∧ ah = ah' ∧ v = .int .i64 (lives : Int)) := by
  obtain ⟨m, clk, h1, h2, h3, h4, h5, h6, h7, h8⟩ := hd
  refine SC_enter fn_disk_Disk_Lives rfl rfl (Nat.le_of_ble_eq_true rfl) ?_
  refine CW_seq ?_
  refine CW_region (l := [_]) ?_
  refine WL_val rfl (PE_assign rfl) ?_
  refine WL_nil ?_
  refine QA_seq ?_
  refine CW_seq ?_
  refine CW_region (l := [_, _, _, _, _]) ?_
  refine WL_val rfl (PE_move rfl) ?_
  refine WL_val rfl (PE_nilCheck rfl) ?_
  refine WL_val rfl (PE_fieldAddr fa_disk_Disk_3 rfl) ?_
  refine WL_val rfl (PE_load tc_int rfl (.own h1 rfl)) ?_
  refine WL_val rfl (PE_assign rfl) ?_
  refine WL_nil ?_
  refine QA_seq ?_
  refine CW_ret ?_
  refine QA_return (rs := [_]) rfl rfl (IM.le.refl _) (_) (fun _ _ h => h) ?_
  exact ⟨rfl, rfl, rfl⟩

theorem ask_spec (w0 : World) (I : IM) (ah : AH) (ρ : Roles) (d room : Nat) (on : Bool) (lives : Nat) (fs : List FE) (hd : DiskAt ρ I ah d room on lives fs) (v : Value) (names : List ByteArray) (hv : SlI I v 1 names.length (names.map .string)) (hn : names.length < 1000) (hs : ∀ s ∈ names, s.size < 9223372036854775808) :
    SC P w0 n_disk_Disk_ask [.pointer (some ⟨d, 0, none⟩), v] I ah (fun v I' ah' => I = I' ∧ ah = ah' ∧ v = .int .i64 (askN on names : Nat)) := by
  obtain ⟨m, clk, h1, h2, h3, h4, h5, h6, h7, h8⟩ := hd
  obtain ⟨a, c, hva, hc, hnil⟩ := hv.form
  refine SC_enter fn_disk_Disk_ask rfl rfl (Nat.le_of_ble_eq_true rfl) ?_
  refine CW_seq ?_
  refine CW_region (l := [_]) ?_
  refine WL_val rfl (PE_assign rfl) ?_
  refine WL_nil ?_
  refine QA_seq ?_
  refine CW_seq ?_
  refine CW_seq ?_
  refine CW_region (l := [_, _, _, _, _]) ?_
  refine WL_val rfl (PE_move rfl) ?_
  refine WL_val rfl (PE_nilCheck rfl) ?_
  refine WL_val rfl (PE_fieldAddr fa_disk_Disk_2 rfl) ?_
  refine WL_val rfl (PE_load tc_bool rfl (.own h1 rfl)) ?_
  refine WL_val rfl (PE_un rfl (rfl)) ?_
  refine WL_nil ?_
  refine QA_seq ?_
  refine CW_cond rfl (fun c1 => ?_) (fun c1 => ?_)
  · have hon : on = false := by simpa using c1
    refine CW_seq ?_
    refine CW_region (l := [_]) ?_
    refine WL_val rfl (PE_assign rfl) ?_
    refine WL_nil ?_
    refine QA_seq ?_
    refine CW_ret ?_
    refine QA_then_ret ?_
    refine QA_return (rs := [_]) rfl rfl (IM.le.refl _) (_) (fun _ _ h => h) ?_
    exact ⟨rfl, rfl, by simp [packRes, askN, hon]⟩
  · have hon : on = true := by simpa using c1
    refine CW_skip ?_
    refine QA_seq ?_
    refine CW_seq ?_
    refine CW_seq ?_
    refine CW_region (l := [_, _, _]) ?_
    refine WL_val rfl (PE_move rfl) ?_
    refine WL_val rfl (PE_len und_sl_string (by rw [← hva]; rfl)) ?_
    refine WL_val rfl (PE_move rfl) ?_
    refine WL_nil ?_
    refine QA_seq ?_
    refine CW_for (names.length) (by omega) (fun k e I' ah' => e = [(12, v)] ∧ I = I' ∧ ah = ah' ∧ (names.take k).all (fun s => goodName s.data.toList) = true) ([(12, v)]) (⟨rfl, rfl, rfl, rfl⟩) (by repeat (first | exact .nil | refine .cons rfl ?_)) (by rintro k e I ah ⟨rfl, _⟩; exact ⟨rfl, rfl, rfl, rfl⟩) rfl rfl rfl rfl ?_ ?_
    · rintro k e I ah hk ⟨rfl, rfl, rfl, hall⟩
      obtain ⟨b, o, c, hvb, _, hcv⟩ := hv.at hk
      have hu : (names.map Value.string)[k]? = some (.string names[k]) := by simp
      have hmem : names[k] ∈ names := List.getElem_mem hk
      refine CW_block ?_
      refine CW_seq ?_
      refine CW_region (l := [_, _, _]) ?_
      refine WL_val rfl (PE_index1 und_sl_string te_string.size (by rw [← hvb]; rfl) rfl rfl hk) ?_
      refine WL_val rfl (PE_load tc_string rfl (.imm (hcv k _ hu))) ?_
      refine WL_val rfl (PE_assign rfl) ?_
      refine WL_nil ?_
      refine QA_seq ?_
      refine CW_seq ?_
      refine CW_region (l := [_, _, _]) ?_
      refine WL_val rfl (PE_move rfl) ?_
      refine WL_op rfl (OE_call (l := [_]) E_disk_good rfl rfl (good_spec _ _ _ names[k] (hs _ hmem))) ?_
      rintro _ I6_1 ah6_1 ⟨_, rfl, _, rfl, rfl, rfl⟩
      refine WL_val rfl (PE_un rfl (rfl)) ?_
      refine WL_nil ?_
      refine QA_seq ?_
      refine CW_cond rfl (fun c3 => ?_) (fun c3 => ?_)
      · skip
        refine CW_seq ?_
        refine CW_region (l := [_]) ?_
        refine WL_val rfl (PE_assign rfl) ?_
        refine WL_nil ?_
        refine QA_seq ?_
        refine CW_ret ?_
        refine QA_block_ret ?_
        refine QA_then_ret ?_
        refine QA_block_ret ?_
        refine QA_then_ret ?_
        refine QA_return (rs := [_]) rfl rfl (IM.le.refl _) (_) (fun _ _ h => h) ?_
        exact ⟨rfl, rfl, by rw [askN, if_pos hon, if_neg (fun h => by rw [List.all_eq_true.1 h _ hmem] at c3; cases c3)]; rfl⟩
      · skip
        refine CW_skip ?_
        refine QA_block_normal ?_
        exact QA_next _ ⟨rfl, rfl, rfl, by rw [List.take_succ_eq_append_getElem hk, List.all_append, hall]; simpa using c3⟩ (by repeat (first | exact .nil | refine .cons rfl ?_))
    · rintro e I ah ⟨rfl, rfl, rfl, hall⟩
      rw [List.take_of_length_le (Nat.le_refl _)] at hall
      refine QA_seq ?_
      refine CW_seq ?_
      refine CW_region (l := [_]) ?_
      refine WL_val rfl (PE_assign rfl) ?_
      refine WL_nil ?_
      refine QA_seq ?_
      refine CW_ret ?_
      refine QA_return (rs := [_]) rfl rfl (IM.le.refl _) (_) (fun _ _ h => h) ?_
      exact ⟨rfl, rfl, by rw [askN, if_pos hon, if_pos hall]; rfl⟩

def findE (on : Bool) (fs : List FE) (k : ByteArray) : Nat := if askN on [k] ≠ 0 then askN on [k] else if (lookF k fs).isSome then 0 else 4
def findV (on : Bool) (fs : List FE) (k : ByteArray) : Value := if askN on [k] ≠ 0 then .pointer none else match lookF k fs with
  | some x => .pointer (some ⟨x.fb, 0, none⟩)
  | none => .pointer none

theorem find_spec (w0 : World) (I : IM) (ah : AH) (ρ : Roles) (d room : Nat) (on : Bool) (lives : Nat) (fs : List FE) (hd : DiskAt ρ I ah d room on lives fs) (k : ByteArray) (hk : k.size < 9223372036854775808) :
    SC P w0 n_disk_Disk_find [.pointer (some ⟨d, 0, none⟩), .string k] I ah (fun v I' ah' => ah = ah' ∧ v = .tuple #[findV on fs k, .int .i64 (findE on fs k : Nat)]) := by
  have hd0 := hd
  obtain ⟨m, clk, h1, h2, h3, h4, h5, h6, h7, h8⟩ := hd
  refine SC_enter fn_disk_Disk_find rfl rfl (Nat.le_of_ble_eq_true rfl) ?_
  refine CW_seq ?_
  refine CW_region (l := [_, _]) ?_
  refine WL_val rfl (PE_assign rfl) ?_
  refine WL_val rfl (PE_assign rfl) ?_
  refine WL_nil ?_
  refine QA_seq ?_
  refine CW_seq ?_
  refine CW_seq ?_
  refine CW_region (l := [_, _, _, _, _]) ?_
  refine WL_val rfl (PE_move rfl) ?_
  refine WL_val rfl (PE_move rfl) ?_
  refine WL_op rfl (OE_litI (l := [_]) (vs := [_]) und_sl_string te_string rfl rfl rfl (by simp [Value.cells]) (by decide) rfl rfl) ?_
  rintro _ I1_2 ah1_2 ⟨v1_2, rfl, hI1_2, rfl, hv1_2, hn1_2⟩
  refine WL_op rfl (OE_call (l := [_, _]) E_disk_Disk_ask rfl rfl (ask_spec _ _ _ ρ d room on lives fs (hd0.mono hI1_2) _ [k] hv1_2 (by simp) (by simpa using hk))) ?_
  rintro _ I1_3 ah1_3 ⟨_, rfl, _, rfl, rfl, rfl⟩
  refine WL_val rfl (PE_assign rfl) ?_
  refine WL_nil ?_
  refine QA_seq ?_
  refine CW_seq ?_
  refine CW_region (l := [_, _]) ?_
  refine WL_val rfl (PE_move rfl) ?_
  refine WL_val rfl (PE_nei rfl rfl rfl) ?_
  refine WL_nil ?_
  refine QA_seq ?_
  refine CW_cond rfl (fun c1 => ?_) (fun c1 => ?_)
  · have hne : askN on [k] ≠ 0 := by simpa using c1
    refine CW_seq ?_
    refine CW_region (l := [_, _, _]) ?_
    refine WL_val rfl (PE_move rfl) ?_
    refine WL_val rfl (PE_assign rfl) ?_
    refine WL_val rfl (PE_assign rfl) ?_
    refine WL_nil ?_
    refine QA_seq ?_
    refine CW_ret ?_
    refine QA_then_ret ?_
    refine QA_return (rs := [_, _]) rfl rfl (hI1_2) (_) (fun _ _ h => h) ?_
    exact ⟨rfl, by rw [findV, findE, if_pos hne, if_pos hne]; rfl⟩
  · have heq : askN on [k] = 0 := by simpa using c1
    refine CW_skip ?_
    refine QA_seq ?_
    refine CW_seq ?_
    cases hl : lookF k fs
    · have hg : getL k (fs.map FE.ent) = none := by rw [getL_ents, hl]; rfl
      refine CW_region (l := [_, _, _, _, _, _, _, _, _, _, _]) ?_
      refine WL_val rfl (PE_move rfl) ?_
      refine WL_val rfl (PE_nilCheck rfl) ?_
      refine WL_val rfl (PE_fieldAddr fa_disk_Disk_1 rfl) ?_
      refine WL_val rfl (PE_load tc_m_string_p_disk_file rfl (.own h1 rfl)) ?_
      refine WL_val rfl (PE_move rfl) ?_
      refine WL_val rfl (PE_lookup0 und_m_string_p_disk_file und_string te_p_disk_file rfl rfl h3 hg true) ?_
      refine WL_val rfl (PE_move rfl) ?_
      refine WL_val rfl (PE_extract rfl rfl) ?_
      refine WL_val rfl (PE_extract rfl rfl) ?_
      refine WL_val rfl (PE_assign rfl) ?_
      refine WL_val rfl (PE_assign rfl) ?_
      refine WL_nil ?_
      refine QA_seq ?_
      refine CW_seq ?_
      refine CW_seq ?_
      refine CW_region (l := [_, _]) ?_
      refine WL_val rfl (PE_move rfl) ?_
      refine WL_val rfl (PE_un rfl (rfl)) ?_
      refine WL_nil ?_
      refine QA_seq ?_
      refine CW_true rfl ?_
      refine CW_seq ?_
      refine CW_region (l := [_, _]) ?_
      refine WL_val rfl (PE_assign rfl) ?_
      refine WL_val rfl (PE_assign rfl) ?_
      refine WL_nil ?_
      refine QA_seq ?_
      refine CW_ret ?_
      refine QA_then_ret ?_
      refine QA_return (rs := [_, _]) rfl rfl (hI1_2) (_) (fun _ _ h => h) ?_
      exact ⟨rfl, by rw [findV, findE, if_neg (by simp [heq]), if_neg (by simp [heq]), hl]; rfl⟩
    · rename_i x
      have hg : getL k (fs.map FE.ent) = some (.pointer (some ⟨x.fb, 0, none⟩)) := by rw [getL_ents, hl]; rfl
      refine CW_region (l := [_, _, _, _, _, _, _, _, _, _, _]) ?_
      refine WL_val rfl (PE_move rfl) ?_
      refine WL_val rfl (PE_nilCheck rfl) ?_
      refine WL_val rfl (PE_fieldAddr fa_disk_Disk_1 rfl) ?_
      refine WL_val rfl (PE_load tc_m_string_p_disk_file rfl (.own h1 rfl)) ?_
      refine WL_val rfl (PE_move rfl) ?_
      refine WL_val rfl (PE_lookup1 und_m_string_p_disk_file und_string rfl rfl h3 hg true) ?_
      refine WL_val rfl (PE_move rfl) ?_
      refine WL_val rfl (PE_extract rfl rfl) ?_
      refine WL_val rfl (PE_extract rfl rfl) ?_
      refine WL_val rfl (PE_assign rfl) ?_
      refine WL_val rfl (PE_assign rfl) ?_
      refine WL_nil ?_
      refine QA_seq ?_
      refine CW_seq ?_
      refine CW_seq ?_
      refine CW_region (l := [_, _]) ?_
      refine WL_val rfl (PE_move rfl) ?_
      refine WL_val rfl (PE_un rfl (rfl)) ?_
      refine WL_nil ?_
      refine QA_seq ?_
      refine CW_false rfl ?_
      refine CW_skip ?_
      refine QA_seq ?_
      refine CW_seq ?_
      refine CW_region (l := [_, _, _]) ?_
      refine WL_val rfl (PE_move rfl) ?_
      refine WL_val rfl (PE_assign rfl) ?_
      refine WL_val rfl (PE_assign rfl) ?_
      refine WL_nil ?_
      refine QA_seq ?_
      refine CW_ret ?_
      refine QA_return (rs := [_, _]) rfl rfl (hI1_2) (_) (fun _ _ h => h) ?_
      exact ⟨rfl, by rw [findV, findE, if_neg (by simp [heq]), if_neg (by simp [heq]), hl]; rfl⟩

end Go.Proofs.YthdpebagkfloaaaDoor

