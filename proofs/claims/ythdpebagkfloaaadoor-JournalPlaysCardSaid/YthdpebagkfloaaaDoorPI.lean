/- disk: what a file is in memory; its bytes, its size, its sync. -/
import Derived.Test.YthdpebagkfloaaaDoorPH
namespace Go.Proofs.YthdpebagkfloaaaDoor
open Go Go.RowKit SL
set_option linter.unusedVariables false
set_option linter.unusedSimpArgs false
set_option maxRecDepth 100000
/-- Whose a block is. -/
inductive Role where
  | out | jrn | jrec | dsk | mp
  | fil (f : Nat) | dat (f : Nat) | prt (f : Nat)
abbrev Roles := Nat → Role
def Roles.set (ρ : Roles) (b : Nat) (r : Role) : Roles := fun k => if k = b then r else ρ k
/-- From ah to ah' nothing changed but blocks of the roles S. -/
def Evo (S : Role → Prop) (ρ : Roles) (ah : AH) (ρ' : Roles) (ah' : AH) : Prop := ∀ b x, ah b = some x → ¬ S (ρ b) → ah' b = some x ∧ ρ' b = ρ b
theorem Evo.refl (S : Role → Prop) (ρ : Roles) (ah : AH) : Evo S ρ ah ρ ah := fun b x e _ => ⟨e, rfl⟩
theorem Evo.trans {S : Role → Prop} {ρ ρ' ρ'' : Roles} {ah ah' ah'' : AH} (h : Evo S ρ ah ρ' ah') (k : Evo S ρ' ah' ρ'' ah'') : Evo S ρ ah ρ'' ah'' := fun b x e hs => by
  obtain ⟨e1, e2⟩ := h b x e hs
  obtain ⟨e3, e4⟩ := k b x e1 (by rw [e2]; exact hs)
  exact ⟨e3, e4.trans e2⟩
theorem Evo.mono {S T : Role → Prop} {ρ ρ' : Roles} {ah ah' : AH} (h : Evo S ρ ah ρ' ah') (hT : ∀ r, S r → T r) : Evo T ρ ah ρ' ah' := fun b x e hs => h b x e (fun k => hs (hT _ k))
/-- Something is stored to a block of the roles S. -/
theorem Evo.set {S : Role → Prop} {ρ : Roles} {ah : AH} {b : Nat} (y : AObj) (hb : S (ρ b)) : Evo S ρ ah ρ (ah.set b y) := fun k x e hs => by
  have : k ≠ b := by rintro rfl; exact hs hb
  exact ⟨by rw [AH.set_ne _ _ this]; exact e, rfl⟩
/-- Something new. -/
theorem Evo.new {S : Role → Prop} {ρ : Roles} {ah : AH} {b : Nat} (y : AObj) (r : Role) (hb : ah b = none) : Evo S ρ ah (ρ.set b r) (ah.set b y) := fun k x e hs => by
  have : k ≠ b := by rintro rfl; rw [hb] at e; cases e
  exact ⟨by rw [AH.set_ne _ _ this]; exact e, by simp [Roles.set, this]⟩
theorem Evo.more {S : Role → Prop} {ρ : Roles} {ah ah' : AH} (h : ∀ b x, ah b = some x → ah' b = some x) : Evo S ρ ah ρ ah' := fun b x e _ => ⟨h b x e, rfl⟩
/-- A slice with the right to the room behind it, of role r. -/
def Rgt (ρ : Roles) (I : IM) (ah : AH) (r : Role) (v : Value) (n : Nat) (vs : List Value) : Prop :=
  SlI I v 1 n vs ∧ ((∃ a, v = .slice a n n) ∨ ∃ b o c, v = .slice (some ⟨b, o, none⟩) n c ∧ ah b = some (.tail (o + n * 1) (o + c * 1)) ∧ ρ b = r)
theorem Rgt.mono {ρ : Roles} {I J : IM} {ah : AH} {r : Role} {v : Value} {n : Nat} {vs : List Value} (h : Rgt ρ I ah r v n vs) (hI : IM.le I J) : Rgt ρ J ah r v n vs := ⟨h.1.mono hI, h.2⟩
theorem Rgt.evo {S : Role → Prop} {ρ ρ' : Roles} {I : IM} {ah ah' : AH} {r : Role} {v : Value} {n : Nat} {vs : List Value} (h : Rgt ρ I ah r v n vs) (e : Evo S ρ ah ρ' ah') (hr : ¬ S r) : Rgt ρ' I ah' r v n vs := by
  refine ⟨h.1, ?_⟩
  rcases h.2 with h | ⟨b, o, c, h1, h2, h3⟩
  · exact .inl h
  · obtain ⟨k1, k2⟩ := e b _ h2 (by rw [h3]; exact hr)
    exact .inr ⟨b, o, c, h1, k1, k2.trans h3⟩
theorem Rgt.nil (ρ : Roles) (I : IM) (ah : AH) (r : Role) : Rgt ρ I ah r (.slice none 0 0) 0 [] := ⟨SlI.nil I 1, .inl ⟨none, rfl⟩⟩
/-- It may be appended to. -/
theorem Rgt.own {ρ : Roles} {I : IM} {ah : AH} {r : Role} {v : Value} {n : Nat} {vs : List Value} (h : Rgt ρ I ah r v n vs) :
    ∃ ah0, Own I ah0 ah v 1 n vs ∧ (∀ b x, ah b = some x → ρ b ≠ r → ah0 b = some x) ∧ (∀ b, ah0 b = none → ah b = none ∨ ρ b = r) := by
  rcases h with ⟨h1, ⟨a, rfl⟩ | ⟨b, o, c, rfl, h2, h3⟩⟩
  · exact ⟨ah, Own.full _ h1, fun b x e _ => e, fun b e => .inl e⟩
  · have hk : n ≤ c ∧ vs.length = n * 1 ∧ ∀ i u, vs[i]? = some u → I b (o + i) = some u := by
      rcases h1 with ⟨⟨_, e⟩, e1, e2⟩ | ⟨b', o', c', e, k1, k2, k3⟩
      · cases e; subst e2; exact ⟨Nat.le_refl _, rfl, fun i u e => by simp at e⟩
      · cases e; exact ⟨k1, k2, k3⟩
    · obtain ⟨k1, k2, k3⟩ := hk
      refine ⟨ah.del b, .inr ⟨b, o, c, o + c * 1, rfl, k1, k2, rfl, by simp, by rw [AH.set_del, AH.set_eq _ h2], k3⟩, fun k x e hk => ?_, fun k e => ?_⟩
      · rw [AH.del_ne]; exact e; rintro rfl; exact hk h3
      · by_cases hk : k = b
        · subst hk; exact .inr h3
        · rw [AH.del_ne _ hk] at e; exact .inl e
/-- What was appended to has its right again. -/
theorem Rgt.of {S : Role → Prop} {ρ : Roles} {I : IM} {ah ah0 ah' : AH} {r : Role} {v : Value} {n : Nat} {vs : List Value} (h : Own I ah0 ah' v 1 n vs) (h0 : ∀ b x, ah b = some x → ρ b ≠ r → ah0 b = some x) (h1 : ∀ b, ah0 b = none → ah b = none ∨ ρ b = r) (hS : S r) :
    ∃ ρ', Rgt ρ' I ah' r v n vs ∧ Evo S ρ ah ρ' ah' ∧ (∀ b, ρ' b = ρ b ∨ ah b = none) := by
  have hsl := h.sl
  rcases h with ⟨_, hfull, rfl⟩ | ⟨b, o, c, fin, hv, k1, k2, k3, k4, rfl, k6⟩
  · exact ⟨ρ, ⟨hsl, .inl hfull⟩, fun b x e hs => ⟨h0 b x e (by rintro rfl; exact hs hS), rfl⟩, fun b => .inl rfl⟩
  · refine ⟨ρ.set b r, ⟨hsl, .inr ⟨b, o, c, hv, by rw [AH.set_same, k3], by simp [Roles.set]⟩⟩, fun k x e hs => ?_, fun k => ?_⟩
    · have hkr : ρ k ≠ r := by intro h; exact hs (h ▸ hS)
      have e0 := h0 k x e hkr
      have hne : k ≠ b := by rintro rfl; rw [k4] at e0; cases e0
      exact ⟨by rw [AH.set_ne _ _ hne]; exact e0, by simp [Roles.set, hne]⟩
    · by_cases hk : k = b
      · subst hk
        rcases h1 k k4 with h | h
        · exact .inr h
        · exact .inl (by simp [Roles.set, h])
      · exact .inl (by simp [Roles.set, hk])
/-- What holds of an own slice that is new. -/
theorem Rgt.ofNew {ρ : Roles} {I : IM} {ah ah' : AH} (S : Role → Prop) (r : Role) {v : Value} {n : Nat} {vs : List Value} (h : Own I ah ah' v 1 n vs) :
    ∃ ρ', Rgt ρ' I ah' r v n vs ∧ Evo S ρ ah ρ' ah' := by
  have hsl := h.sl
  rcases h with ⟨_, hfull, rfl⟩ | ⟨b, o, c, fin, hv, k1, k2, k3, k4, rfl, k6⟩
  · exact ⟨ρ, ⟨hsl, .inl hfull⟩, Evo.refl _ _ _⟩
  · exact ⟨ρ.set b r, ⟨hsl, .inr ⟨b, o, c, hv, by rw [AH.set_same, k3], by simp [Roles.set]⟩⟩, Evo.new _ r k4⟩
/-- The rows of a slice of slices. -/
def Rows (I : IM) (vs : List Value) (ls : List (List UInt8)) : Prop := vs.length = ls.length ∧ ∀ (i : Nat) (l : List UInt8), ls[i]? = some l → ∃ u, vs[i]? = some u ∧ BySl I u l
theorem Rows.mono {I J : IM} {vs : List Value} {ls : List (List UInt8)} (h : Rows I vs ls) (hI : IM.le I J) : Rows J vs ls := ⟨h.1, fun i l e => by obtain ⟨u, a, b⟩ := h.2 i l e; exact ⟨u, a, b.mono hI⟩⟩
theorem Rows.snoc {I : IM} {vs : List Value} {ls : List (List UInt8)} {u : Value} {l : List UInt8} (h : Rows I vs ls) (hu : BySl I u l) : Rows I (vs ++ [u]) (ls ++ [l]) := by
  refine ⟨by simp [h.1], fun i m e => ?_⟩
  rcases Nat.lt_or_ge i ls.length with hi | hi
  · rw [List.getElem?_append_left hi] at e
    obtain ⟨w, a, b⟩ := h.2 i m e
    exact ⟨w, by rw [List.getElem?_append_left (by rw [h.1]; exact hi)]; exact a, b⟩
  · rw [List.getElem?_append_right hi] at e
    have hi0 : i - ls.length = 0 := by have := (List.getElem?_eq_some_iff.1 e).1; simp at this; omega
    rw [hi0] at e
    simp at e; subst e
    exact ⟨u, by rw [List.getElem?_append_right (by rw [h.1]; exact hi), h.1, hi0]; rfl, hu⟩
theorem Rows.nil (I : IM) : Rows I [] [] := ⟨rfl, fun i l e => by simp at e⟩
theorem Rows.by {I : IM} {v : Value} {vs : List Value} {ls : List (List UInt8)} (h : Rows I vs ls) (hv : SlI I v 1 ls.length vs) : ByRows I v ls := ⟨vs, hv, h.2⟩
/-- A file: what is on the platter, the writes since. -/
def FileAt (ρ : Roles) (I : IM) (ah : AH) (f : Nat) (data : List UInt8) (parts : List (List UInt8)) : Prop :=
  ∃ dv tv pvs, ah f = some (.cells [dv, tv]) ∧ ρ f = .fil f ∧ Rgt ρ I ah (.dat f) dv data.length (data.map bv) ∧ Rgt ρ I ah (.prt f) tv parts.length pvs ∧ Rows I pvs parts
def ofF (f : Nat) (r : Role) : Prop := r = .fil f ∨ r = .dat f ∨ r = .prt f
theorem FileAt.mono {ρ : Roles} {I J : IM} {ah : AH} {f : Nat} {data : List UInt8} {parts : List (List UInt8)} (h : FileAt ρ I ah f data parts) (hI : IM.le I J) : FileAt ρ J ah f data parts := by
  obtain ⟨dv, tv, pvs, h1, h2, h3, h4, h5⟩ := h
  exact ⟨dv, tv, pvs, h1, h2, h3.mono hI, h4.mono hI, h5.mono hI⟩
theorem FileAt.evo {S : Role → Prop} {ρ ρ' : Roles} {I : IM} {ah ah' : AH} {f : Nat} {data : List UInt8} {parts : List (List UInt8)} (h : FileAt ρ I ah f data parts) (e : Evo S ρ ah ρ' ah') (hS : ∀ r, ofF f r → ¬ S r) : FileAt ρ' I ah' f data parts := by
  obtain ⟨dv, tv, pvs, h1, h2, h3, h4, h5⟩ := h
  obtain ⟨k1, k2⟩ := e f _ h1 (by rw [h2]; exact hS _ (.inl rfl))
  exact ⟨dv, tv, pvs, k1, k2.trans h2, h3.evo e (hS _ (.inr (.inl rfl))), h4.evo e (hS _ (.inr (.inr rfl))), h5⟩
theorem ofF_ne {f g : Nat} (h : f ≠ g) : ∀ r, ofF f r → ¬ ofF g r := by
  rintro r (rfl | rfl | rfl) (k | k | k) <;> cases k <;> exact h rfl

theorem fsize_spec (w0 : World) (I : IM) (ah : AH) (ρ : Roles) (f : Nat) (data : List UInt8) (parts : List (List UInt8)) (hf : FileAt ρ I ah f data parts) (hb : data.length + parts.flatten.length ≤ 70368744177600) (hp : parts.length ≤ 70368744177600) :
    SC P w0 n_disk_file_size [.pointer (some ⟨f, 0, none⟩)] I ah (fun v I' ah' => I = I' ∧ ah = ah' ∧ v = .int .i64 ((data.length + parts.flatten.length : Nat) : Int)) := by
  obtain ⟨dv, tv, pvs, h1, h2, h3, h4, h5⟩ := hf
  obtain ⟨da, dc, rfl, _⟩ := SlI.form h3.1
  obtain ⟨ta, tc, rfl, _⟩ := SlI.form h4.1
  refine SC_enter fn_disk_file_size rfl rfl (Nat.le_of_ble_eq_true rfl) ?_
  refine CW_seq ?_
  refine CW_region (l := [_]) ?_
  refine WL_val rfl (PE_assign rfl) ?_
  refine WL_nil ?_
  refine QA_seq ?_
  refine CW_seq ?_
  refine CW_region (l := [_, _, _, _, _, _]) ?_
  refine WL_val rfl (PE_move rfl) ?_
  refine WL_val rfl (PE_nilCheck rfl) ?_
  refine WL_val rfl (PE_fieldAddr fa_disk_file_0 rfl) ?_
  refine WL_val rfl (PE_load tc_sl_uint8 rfl (.own h1 rfl)) ?_
  refine WL_val rfl (PE_len und_sl_uint8 rfl) ?_
  refine WL_val rfl (PE_assign rfl) ?_
  refine WL_nil ?_
  refine QA_seq ?_
  refine CW_seq ?_
  refine CW_seq ?_
  refine CW_region (l := [_, _, _, _, _, _]) ?_
  refine WL_val rfl (PE_move rfl) ?_
  refine WL_val rfl (PE_nilCheck rfl) ?_
  refine WL_val rfl (PE_fieldAddr fa_disk_file_1 rfl) ?_
  refine WL_val rfl (PE_load tc_sl_sl_uint8 rfl (.own h1 rfl)) ?_
  refine WL_val rfl (PE_len und_sl_sl_uint8 rfl) ?_
  refine WL_val rfl (PE_move rfl) ?_
  refine WL_nil ?_
  refine QA_seq ?_
  refine CW_for (parts.length) (by omega) (fun k e I' ah' => e = [(14, .slice ta parts.length tc), (3, .int .i64 ((data.length + (parts.take k).flatten.length : Nat) : Int))] ∧ I = I' ∧ ah = ah') ([(14, .slice ta parts.length tc), (3, .int .i64 ((data.length + (parts.take 0).flatten.length : Nat) : Int))]) (⟨rfl, rfl, rfl⟩) (by repeat (first | exact .nil | refine .cons rfl ?_)) (by rintro k e I ah ⟨rfl, _⟩; exact ⟨rfl, rfl, rfl, rfl⟩) rfl rfl rfl rfl ?_ ?_
  · rintro k e I ah hk ⟨rfl, rfl, rfl⟩
    obtain ⟨b, o, c, hvb, _, hcv⟩ := SlI.at h4.1 hk
    obtain ⟨u, hu, hul⟩ := h5.2 k parts[k] (by simp)
    have hk1 := len_le_flat parts k hk
    obtain ⟨a1, c1, rfl, _⟩ := hul.form
    refine CW_block ?_
    refine CW_seq ?_
    refine CW_region (l := [_, _, _]) ?_
    refine WL_val rfl (PE_index1 und_sl_sl_uint8 te_sl_uint8.size (by rw [← hvb]; rfl) rfl rfl hk) ?_
    refine WL_val rfl (PE_load tc_sl_uint8 rfl (.imm (hcv k _ hu))) ?_
    refine WL_val rfl (PE_assign rfl) ?_
    refine WL_nil ?_
    refine QA_seq ?_
    refine CW_region (l := [_, _, _, _, _]) ?_
    refine WL_val rfl (PE_move rfl) ?_
    refine WL_val rfl (PE_move rfl) ?_
    refine WL_val rfl (PE_len und_sl_uint8 rfl) ?_
    refine WL_val rfl (PE_add (r := ((data.length + ((parts.take k).flatten.length + parts[k].length) : Nat) : Int)) rfl rfl (w64e (by push_cast; omega) (by omega) (by omega))) ?_
    refine WL_val rfl (PE_assign rfl) ?_
    refine WL_nil ?_
    refine QA_block_normal ?_
    exact QA_next _ ⟨by rw [flat_take parts k hk, List.length_append], rfl, rfl⟩ (by repeat (first | exact .nil | refine .cons rfl ?_))
  · rintro e I ah ⟨rfl, rfl, rfl⟩
    rw [List.take_of_length_le (Nat.le_refl parts.length)]
    refine QA_seq ?_
    refine CW_seq ?_
    refine CW_region (l := [_, _]) ?_
    refine WL_val rfl (PE_move rfl) ?_
    refine WL_val rfl (PE_assign rfl) ?_
    refine WL_nil ?_
    refine QA_seq ?_
    refine CW_ret ?_
    refine QA_return (rs := [_]) rfl rfl (IM.le.refl _) (_) (fun _ _ h => h) ?_
    exact ⟨rfl, rfl, rfl⟩

theorem fall_spec (w0 : World) (I : IM) (ah : AH) (ρ : Roles) (f : Nat) (data : List UInt8) (parts : List (List UInt8)) (hf : FileAt ρ I ah f data parts) (hb : data.length + parts.flatten.length ≤ 70368744177600) (hp : parts.length ≤ 70368744177600) :
    SC P w0 n_disk_file_all [.pointer (some ⟨f, 0, none⟩)] I ah (fun v I' ah' => OwnB I' ah ah' v (data ++ parts.flatten)) := by
  obtain ⟨dv, tv, pvs, h1, h2, h3, h4, h5⟩ := hf
  obtain ⟨da, dc, rfl, _⟩ := SlI.form h3.1
  obtain ⟨ta, tc, rfl, _⟩ := SlI.form h4.1
  refine SC_enter fn_disk_file_all rfl rfl (Nat.le_of_ble_eq_true rfl) ?_
  refine CW_seq ?_
  refine CW_region (l := [_]) ?_
  refine WL_val rfl (PE_assign rfl) ?_
  refine WL_nil ?_
  refine QA_seq ?_
  refine CW_seq ?_
  refine CW_drawS (l := [_, _, _, _, _, _, _, _, _, _, _, _]) 12 mixed ?_
  refine WA_take 0 rfl (by kernel_rfl) (by kernel_rfl) (by kernel_rfl) (by kernel_rfl) rfl (by kernel_rfl) rfl (IM.le.refl _) (fun _ _ h => h) (PE_move rfl) ?_
  refine WA_take 1 rfl (by kernel_rfl) (by kernel_rfl) (by kernel_rfl) (by kernel_rfl) rfl (by kernel_rfl) rfl (IM.le.refl _) (fun _ _ h => h) (PE_nilCheck rfl) ?_
  refine WA_take 2 rfl (by kernel_rfl) (by kernel_rfl) (by kernel_rfl) (by kernel_rfl) rfl (by kernel_rfl) rfl (IM.le.refl _) (fun _ _ h => h) (PE_fieldAddr fa_disk_file_0 rfl) ?_
  refine WA_take 3 rfl (by kernel_rfl) (by kernel_rfl) (by kernel_rfl) (by kernel_rfl) rfl (by kernel_rfl) rfl (IM.le.refl _) (fun _ _ h => h) (PE_load tc_sl_uint8 rfl (.own h1 rfl)) ?_
  refine WA_take 5 rfl (by kernel_rfl) (by kernel_rfl) (by kernel_rfl) (by kernel_rfl) rfl (by kernel_rfl) rfl (IM.le.refl _) (fun _ _ h => h) (PE_move rfl) ?_
  refine WA_take 6 rfl (by kernel_rfl) (by kernel_rfl) (by kernel_rfl) (by kernel_rfl) rfl (by kernel_rfl) rfl (IM.le.refl _) (fun _ _ h => h) (PE_nilCheck rfl) ?_
  refine WA_take 7 rfl (by kernel_rfl) (by kernel_rfl) (by kernel_rfl) (by kernel_rfl) rfl (by kernel_rfl) rfl (IM.le.refl _) (fun _ _ h => h) (PE_fieldAddr fa_disk_file_1 rfl) ?_
  refine WA_take 8 rfl (by kernel_rfl) (by kernel_rfl) (by kernel_rfl) (by kernel_rfl) rfl (by kernel_rfl) rfl (IM.le.refl _) (fun _ _ h => h) (PE_load tc_sl_sl_uint8 rfl (.own h1 rfl)) ?_
  refine WA_op 4 rfl rfl (by kernel_rfl) (OE_call (l := [_]) E_slices_Clone_sl_byte_byte rfl rfl (sclone_spec _ _ _ _ data h3.1 (by omega))) ?_ ?_
  · rintro _ I1_4 ah1_4 ⟨v4, rfl, hI4, ho4, _⟩; exact ⟨hI4, Own.base ho4⟩
  rintro _ I1_4 ah1_4 ⟨v4, rfl, hI4, ho4, _⟩
  refine WA_op 9 rfl rfl (by kernel_rfl) (OE_call (l := [_]) E_slices_Concat_sl_byte_byte rfl rfl (concat_spec _ _ _ _ parts ((h5.by h4.1).mono hI4) (by omega) (by omega))) ?_ ?_
  · rintro _ I1_9 ah1_9 ⟨v9, rfl, hI9, ho9⟩; exact ⟨hI4.trans hI9, fun b x e => Own.base ho9 b x (Own.base ho4 b x e)⟩
  rintro _ I1_9 ah1_9 ⟨v9, rfl, hI9, ho9⟩
  refine WA_forget (Own.base ho9) ?_
  refine WA_op 10 rfl rfl (by kernel_rfl) (OE_append (n := data.length) (m := parts.flatten.length) (vs := data.map bv) (us := parts.flatten.map bv) und_sl_uint8 ⟨_, und_sl_uint8⟩ te_uint8 rfl rfl rfl (Own.mono ho4 hI9) ((OwnB.sl ho9).src _) (bvs_one _) (by decide) (by omega) (by omega)) ?_ ?_
  · rintro _ I1_10 ah1_10 ⟨v1_10, rfl, hI1_10, hv1_10, hn1_10⟩; exact ⟨(hI4.trans hI9).trans hI1_10, Own.base hv1_10⟩
  rintro _ I1_10 ah1_10 ⟨v1_10, rfl, hI1_10, hv1_10, hn1_10⟩
  refine WA_take 11 rfl (by kernel_rfl) (by kernel_rfl) (by kernel_rfl) (by kernel_rfl) rfl (by kernel_rfl) rfl ((hI4.trans hI9).trans hI1_10) (Own.base hv1_10) (PE_assign rfl) ?_
  refine WA_done (by kernel_rfl) ?_
  refine QA_seq ?_
  refine CW_ret ?_
  refine QA_return (rs := [_]) rfl rfl ((hI4.trans hI9).trans hI1_10) (_) (fun _ _ h => h) ?_
  exact OwnB.of hv1_10 rfl

end Go.Proofs.YthdpebagkfloaaaDoor

