/- disk: Crash; the disk's calls as what each name has. -/
import Derived.Test.YthdpebagkfloaaaDoorPN
namespace Go.Proofs.YthdpebagkfloaaaDoor
open Go Go.RowKit SL
set_option linter.unusedVariables false
set_option linter.unusedSimpArgs false
set_option maxRecDepth 100000
def FE.fell (keep : Nat) (torn : Int) (x : FE) : FE := { x with data := x.data ++ crashB keep torn x.parts, parts := [] }
def crF (keep : Nat) (torn : Int) (s : List Nat) (x : FE) : FE := if x.born ∈ s then x.fell keep torn else x
theorem crF_ent (keep : Nat) (torn : Int) (s : List Nat) (x : FE) : (crF keep torn s x).ent = x.ent := by unfold crF; split <;> rfl
def anyF (r : Role) : Prop := ∃ f, ofF f r
theorem born_inj {x y : FE} : ∀ {fs : List FE}, (fs.map (·.born)).Nodup → x ∈ fs → y ∈ fs → x.born = y.born → x = y
  | z :: r, hn, hx, hy, e => by
    have hn' := List.nodup_cons.1 hn
    rcases List.mem_cons.1 hx with rfl | hx' <;> rcases List.mem_cons.1 hy with rfl | hy'
    · rfl
    · exact absurd (show x.born ∈ _ by rw [e]; exact List.mem_map.2 ⟨y, hy', rfl⟩) hn'.1
    · exact absurd (show y.born ∈ _ by rw [← e]; exact List.mem_map.2 ⟨x, hx', rfl⟩) hn'.1
    · exact born_inj hn'.2 hx' hy' e
theorem fb_inj {x y : FE} : ∀ {fs : List FE}, (fs.map (·.fb)).Nodup → x ∈ fs → y ∈ fs → x.fb = y.fb → x = y
  | z :: r, hn, hx, hy, e => by
    have hn' := List.nodup_cons.1 hn
    rcases List.mem_cons.1 hx with rfl | hx' <;> rcases List.mem_cons.1 hy with rfl | hy'
    · rfl
    · exact absurd (show x.fb ∈ _ by rw [e]; exact List.mem_map.2 ⟨y, hy', rfl⟩) hn'.1
    · exact absurd (show y.fb ∈ _ by rw [← e]; exact List.mem_map.2 ⟨x, hx', rfl⟩) hn'.1
    · exact fb_inj hn'.2 hx' hy' e
def fellC (keep : Nat) (torn : Int) (c : Cont) : Cont := fun k => (c k).map fun p => (p.1 ++ crashB keep torn p.2, [])
theorem crashB_len (keep : Nat) (torn : Int) (parts : List (List UInt8)) : (crashB keep torn parts).length ≤ parts.flatten.length := by
  have h1 := crashTo_len keep torn (lastS keep parts.length) parts (lastS keep parts.length) (lastS_le _ _)
  have h2 := flat_le parts (lastS keep parts.length)
  unfold crashB; omega
theorem fell_size (keep : Nat) (torn : Int) : ∀ (fs : List FE), fsSize (fs.map (FE.fell keep torn)) ≤ fsSize fs
  | [] => Nat.le_refl _
  | x :: r => by
    have := fell_size keep torn r
    have h := crashB_len keep torn x.parts
    rw [List.map_cons, fsSize, fsSize]
    have e : (x.fell keep torn).sz = x.data.length + (crashB keep torn x.parts).length := by simp [FE.sz, FE.fell]
    rw [e]; unfold FE.sz; omega
theorem cof_fell (keep : Nat) (torn : Int) (fs : List FE) : cof (fs.map (FE.fell keep torn)) = fellC keep torn (cof fs) := by
  funext k
  unfold fellC cof
  induction fs with
  | nil => rfl
  | cons x r ih =>
    rw [List.map_cons]; unfold lookF
    by_cases h : k = x.name
    · rw [if_pos h, if_pos (by exact h)]; rfl
    · rw [if_neg h, if_neg (by exact h)]; exact ih

theorem dcrash_spec (w0 : World) (I : IM) (ah : AH) (ρ : Roles) (d room lives : Nat) (on : Bool) (c : Cont) (sz : Nat) (hd : Dk ρ I ah d room on lives c sz) (keep : Nat) (hkeep : keep < 18446744073709551616) (torn : Int) (htorn : -9223372036854775808 ≤ torn ∧ torn < 9223372036854775808) :
    SC P w0 n_disk_Disk_Crash [.pointer (some ⟨d, 0, none⟩), .int .u64 (keep : Nat), .int .i64 torn] I ah (fun v' I' ah' => IM.le I I' ∧ ∃ ρ', Evo ofD ρ ah ρ' ah' ∧ Dk ρ' I' ah' d room false lives (fellC keep torn c) sz) := by
  obtain ⟨fs, hd0, hF, hN, hsz, rfl⟩ := hd
  have hd1 := hd0
  obtain ⟨m, clk, h1, h2, h3, h4, h5, h6, h7, h8⟩ := hd1
  have hF1 := hF.1
  have hF2 := hF.2.1
  refine SC_enter fn_disk_Disk_Crash rfl rfl (Nat.le_of_ble_eq_true rfl) ?_
  refine CW_seq ?_
  refine CW_seq ?_
  refine CW_region (l := [_, _, _, _, _]) ?_
  refine WL_val rfl (PE_move rfl) ?_
  refine WL_val rfl (PE_nilCheck rfl) ?_
  refine WL_val rfl (PE_fieldAddr fa_disk_Disk_1 rfl) ?_
  refine WL_val rfl (PE_load tc_m_string_p_disk_file rfl (.own h1 rfl)) ?_
  refine WL_op rfl (OE_range und_m_string_p_disk_file rfl rfl h3) ?_
  rintro _ I0_4 ah0_4 ⟨b0_4, rfl, rfl, rfl, hb0_4, hw0_4⟩
  have eN : Evo (fun _ => False) ρ ah (ρ.set b0_4 (.fil b0_4)) (ah.set b0_4 (iobj m clk [])) := Evo.new _ _ hb0_4
  have h1' := (eN d _ h1 id).1
  have h2' := (eN d _ h1 id).2.trans h2
  have h3' := (eN m _ h3 id).1
  have h4' := (eN m _ h3 id).2.trans h4
  have h8' := fun y hy => (h8 y hy).evo eN (fun _ _ h => h)
  have hit0 : (ah.set b0_4 (iobj m clk [])) b0_4 = some (iobj m clk []) := AH.set_same _ _ _
  have hr0 : (ρ.set b0_4 (.fil b0_4)) b0_4 = .fil b0_4 := by simp [Roles.set]
  have hfb : ∀ y ∈ fs, b0_4 ≠ y.fb := by
    rintro y hy rfl
    obtain ⟨_, _, _, f1, _⟩ := h8 y hy
    rw [hb0_4] at f1; cases f1
  generalize ah.set b0_4 (iobj m clk []) = ah2 at eN h1' h3' h8' hit0 ⊢
  generalize ρ.set b0_4 (.fil b0_4) = ρ2 at eN h2' h4' h8' hr0
  refine WL_nil ?_
  refine QA_seq ?_
  refine CW_mapFor (m) (b0_4) (clk) (fs.map FE.ent) (fun p hp => by obtain ⟨x, hx, rfl⟩ := List.mem_map.1 hp; exact h5 x hx) (fun s e I' A' => ∃ ρ', e = [(0, .pointer (some ⟨d, 0, none⟩)), (1, .int .u64 (keep : Nat)), (2, .int .i64 torn)] ∧ IM.le I I' ∧ Evo anyF ρ2 ah2 ρ' A' ∧ A' b0_4 = some (iobj m clk s) ∧ ρ' b0_4 = .fil b0_4 ∧ ∀ x ∈ fs, FileAt ρ' I' A' x.fb (crF keep torn s x).data (crF keep torn s x).parts) ([(0, .pointer (some ⟨d, 0, none⟩)), (1, .int .u64 (keep : Nat)), (2, .int .i64 torn)]) (⟨ρ2, rfl, IM.le.refl _, Evo.refl _ _ _, hit0, hr0, fun x hx => by have := h8' x hx; unfold crF; simpa using this⟩) (by repeat (first | exact .nil | refine .cons rfl ?_)) (by rintro k e I ah ⟨_, rfl, _⟩; exact ⟨rfl, rfl, rfl⟩) (by rintro s e I A ⟨ρ', rfl, hI, hev, hi, hri, hfl⟩; exact ⟨hi, (hev m _ h3' (by rw [h4']; rintro ⟨f, h | h | h⟩ <;> cases h)).1⟩) rfl rfl rfl ?_ ?_
  · rintro s e I2 A2 p ⟨ρ', rfl, hI2, hev, hi, hri, hfl⟩ hp hps
    obtain ⟨x, hx, rfl⟩ := List.mem_map.1 hp
    have hcx : crF keep torn s x = x := if_neg hps
    have e3 : Evo (fun r => r = .fil b0_4) ρ' A2 ρ' (A2.set b0_4 (iobj m clk (s ++ [x.ent.2.2]))) := Evo.set _ hri
    have hfile : FileAt ρ' I2 (A2.set b0_4 (iobj m clk (s ++ [x.ent.2.2]))) x.fb x.data x.parts := by
      have := (hfl x hx).evo e3 (by rintro r hr rfl; exact ofF_ne (Ne.symm (hfb x hx)) _ hr (.inl rfl))
      rwa [hcx] at this
    have hfx := hF.file hx
    have hm3 : (A2.set b0_4 (iobj m clk (s ++ [x.ent.2.2]))) m = some (mobj (fs.map FE.ent) clk) := (e3 m _ (hev m _ h3' (by rw [h4']; rintro ⟨f, h | h | h⟩ <;> cases h)).1 (by rw [(hev m _ h3' (by rw [h4']; rintro ⟨f, h | h | h⟩ <;> cases h)).2, h4']; simp)).1
    have hi3 : (A2.set b0_4 (iobj m clk (s ++ [x.ent.2.2]))) b0_4 = some (iobj m clk (s ++ [x.ent.2.2])) := AH.set_same _ _ _
    refine CW_block ?_
    refine CW_seq ?_
    refine CW_region (l := [_, _, _]) ?_
    refine WL_val rfl (PE_entry rfl hi3 hm3 hp (ents_born h6)) ?_
    refine WL_val rfl (PE_extract rfl rfl) ?_
    refine WL_val rfl (PE_assign rfl) ?_
    refine WL_nil ?_
    refine QA_seq ?_
    refine CW_region (l := [_, _, _, _]) ?_
    refine WL_val rfl (PE_move rfl) ?_
    refine WL_val rfl (PE_move rfl) ?_
    refine WL_val rfl (PE_move rfl) ?_
    refine WL_op rfl (OE_call (l := [_, _, _]) E_disk_file_crash rfl rfl (fcrash_spec _ _ _ ρ' x.fb x.data x.parts hfile (by omega) (by omega) keep hkeep torn htorn)) ?_
    rintro _ I3_3 ah3_3 ⟨v4, rfl, hI3, ρ3, he4, hf4⟩
    refine WL_nil ?_
    refine QA_block_normal ?_
    refine QA_nextM _ ⟨ρ3, rfl, hI2.trans hI3, (hev.trans (e3.mono (by rintro r rfl; exact ⟨_, .inl rfl⟩))).trans (he4.mono (fun r h => ⟨_, h⟩)), (he4 _ _ hi3 (by rw [hri]; rintro (h | h | h) <;> cases h; exact hfb x hx rfl)).1, (he4 _ _ hi3 (by rw [hri]; rintro (h | h | h) <;> cases h; exact hfb x hx rfl)).2.trans hri, fun y hy => ?_⟩ (by repeat (first | exact .nil | refine .cons rfl ?_))
    by_cases hyx : y = x
    · subst hyx
      rw [show crF keep torn (s ++ [y.ent.2.2]) y = y.fell keep torn from if_pos (by simp [FE.ent])]
      exact hf4
    · have hbn : y.born ≠ x.born := fun e => hyx (born_inj h6 hy hx e)
      have hfn : y.fb ≠ x.fb := fun e => hyx (fb_inj h7 hy hx e)
      have : crF keep torn (s ++ [x.ent.2.2]) y = crF keep torn s y := by unfold crF; simp [FE.ent, hbn]
      rw [this]
      exact (((hfl y hy).evo e3 (by rintro r hr rfl; exact ofF_ne (Ne.symm (hfb y hy)) _ hr (.inl rfl))).mono hI3).evo he4 (ofF_ne hfn)
  · rintro s e I2 A2 ⟨ρ', rfl, hI2, hev, hi, hri, hfl⟩ hall
    have hsame : ∀ x ∈ fs, crF keep torn s x = x.fell keep torn := fun x hx => if_pos (hall x.ent (List.mem_map.2 ⟨x, hx, rfl⟩))
    have k1 := (hev d _ h1' (by rw [h2']; rintro ⟨f, h | h | h⟩ <;> cases h))
    have k3 := (hev m _ h3' (by rw [h4']; rintro ⟨f, h | h | h⟩ <;> cases h))
    have hD : DiskAt ρ' I2 A2 d room on lives (fs.map (FE.fell keep torn)) := by
      refine ⟨m, clk, k1.1, k1.2.trans h2', ?_, k3.2.trans h4', ?_, ?_, ?_, ?_⟩
      · rw [List.map_map]; exact k3.1
      · intro y hy; obtain ⟨x, hx, rfl⟩ := List.mem_map.1 hy; exact h5 x hx
      · rw [List.map_map]; exact h6
      · rw [List.map_map]; exact h7
      · intro y hy; obtain ⟨x, hx, rfl⟩ := List.mem_map.1 hy
        have := hfl x hx; rw [hsame x hx] at this; exact this
    refine QA_seq ?_
    refine CW_region (l := [_, _, _, _]) ?_
    refine WL_val rfl (PE_move rfl) ?_
    refine WL_val rfl (PE_nilCheck rfl) ?_
    refine WL_val rfl (PE_fieldAddr fa_disk_Disk_2 rfl) ?_
    refine WL_op rfl (OE_store tc_bool rfl rfl rfl k1.1 (by simp)) ?_
    rintro _ I4_3 ah4_3 ⟨rfl, rfl, rfl⟩
    refine WL_nil ?_
    refine QA_end (rs := []) rfl rfl (hI2) (_) (fun _ _ h => h) ?_
    rw [List.set_cons_succ, List.set_cons_succ, List.set_cons_zero]
    have hH := DiskAt.head (x0 := []) (on' := false) (lives' := lives) hD k1.1
    refine ⟨hI2, ρ', (eN.mono (fun _ h => h.elim)).trans ((hev.mono (by rintro r ⟨f, h | h | h⟩ <;> subst h <;> simp [ofD])).trans hH.1), fs.map (FE.fell keep torn), hH.2, ⟨?_, hF2, ?_⟩, ?_, ?_, cof_fell keep torn fs⟩
    · have := fell_size keep torn fs; omega
    · intro y hy p hp; obtain ⟨x, hx, rfl⟩ := List.mem_map.1 hy; cases hp
    · rw [List.map_map]; exact hN
    · have := fell_size keep torn fs; omega

section Dk
variable {w0 : World} {I : IM} {ah : AH} {ρ : Roles} {d room lives : Nat} {on : Bool} {c : Cont} {sz : Nat}
theorem kpower (hd : Dk ρ I ah d room on lives c sz) : SC P w0 n_disk_Disk_Power [.pointer (some ⟨d, 0, none⟩)] I ah (fun v I' ah' => I = I' ∧ ah = ah' ∧ v = .bool on) := by
  obtain ⟨fs, h, _⟩ := hd; exact power_spec w0 I ah ρ d room on lives fs h
theorem klives (hd : Dk ρ I ah d room on lives c sz) : SC P w0 n_disk_Disk_Lives [.pointer (some ⟨d, 0, none⟩)] I ah (fun v I' ah' => I = I' ∧ ah = ah' ∧ v = .int .i64 (lives : Int)) := by
  obtain ⟨fs, h, _⟩ := hd; exact lives_spec w0 I ah ρ d room on lives fs h
def codeC (c : Cont) (k : ByteArray) : Nat := if (c k).isSome then 0 else 4
def bytesC (c : Cont) (k : ByteArray) : List UInt8 := match c k with
  | some (a, p) => a ++ p.flatten
  | none => []
theorem kread (hd : Dk ρ I ah d room true lives c sz) (k : ByteArray) (hk : k.size < 9223372036854775808) (gk : good k = true) :
    SC P w0 n_disk_Disk_Read [.pointer (some ⟨d, 0, none⟩), .string k] I ah (fun v I' ah' => ah = ah' ∧ ∃ rv, v = .tuple #[rv, .int .i64 (codeC c k : Nat)] ∧ BySl I' rv (bytesC c k)) := by
  obtain ⟨fs, h, hF, _, _, rfl⟩ := hd
  have := read_spec w0 I ah ρ d room true lives fs h hF k hk
  rw [show findE true fs k = codeC (cof fs) k from findE_co fs gk] at this
  have e : readB true fs k = bytesC (cof fs) k := by
    unfold readB bytesC
    rw [findE_co fs gk]
    unfold cof
    cases lookF k fs <;> rfl
  rw [e] at this; exact this
def syncC (c : Cont) (k : ByteArray) : Cont := match c k with
  | some (a, p) => c.set k (some (a ++ p.flatten, []))
  | none => c
theorem updF_all {k : ByteArray} {g : FE → FE} {y : FE} : ∀ {fs : List FE}, y ∈ updF k g fs → y ∈ fs ∨ ∃ x ∈ fs, y = g x
  | z :: r, hy => by
    unfold updF at hy
    split at hy
    · rcases List.mem_cons.1 hy with h | h
      · exact .inr ⟨z, by simp, h⟩
      · exact .inl (by simp [h])
    · rcases List.mem_cons.1 hy with h | h
      · exact .inl (by simp [h])
      · rcases updF_all h with h | ⟨x, hx, e⟩
        · exact .inl (by simp [h])
        · exact .inr ⟨x, by simp [hx], e⟩
theorem ksync (hd : Dk ρ I ah d room true lives c sz) (k : ByteArray) (hk : k.size < 9223372036854775808) (gk : good k = true) :
    SC P w0 n_disk_Disk_Sync [.pointer (some ⟨d, 0, none⟩), .string k] I ah (fun v I' ah' => IM.le I I' ∧ v = .int .i64 (codeC c k : Nat) ∧ ∃ ρ', Evo ofD ρ ah ρ' ah' ∧ Dk ρ' I' ah' d room true lives (syncC c k) sz) := by
  obtain ⟨fs, h, hF, hN, hsz, rfl⟩ := hd
  have h0 := dsync_spec w0 I ah ρ d room true lives fs h hF k hk
  refine h0.mono ?_
  rintro v I' ah' hI ⟨e, ρ', he, hD⟩
  refine ⟨hI, by rw [e, findE_co fs gk]; rfl, ρ', he, _, hD, ?_⟩
  unfold syncF syncC
  rw [findE_co fs gk]
  cases hc : cof fs k with
  | none => exact ⟨hF, hN, hsz, rfl⟩
  | some u =>
    obtain ⟨x, hx, hxu⟩ := cof_some hc
    simp only [Option.isSome_some, if_true]
    have hs : fsSize (updF k FE.synced fs) = fsSize fs + 0 := updF_size hx (by simp [FE.sz, FE.synced])
    refine ⟨⟨by have := hF.1; omega, hF.2.1, fun y hy p hp => ?_⟩, ?_, by omega, ?_⟩
    · rcases updF_all hy with h | ⟨z, hz, rfl⟩
      · exact hF.2.2 y h p hp
      · cases hp
    · rw [updF_map (fun y => y.name) k FE.synced (fun _ => rfl)]; exact hN
    · rw [cof_upd k FE.synced (fun _ => rfl), hx, ← hxu]; rfl
theorem kdrop (hd : Dk ρ I ah d room true lives c sz) (k : ByteArray) (hk : k.size < 9223372036854775808) (gk : good k = true) :
    SC P w0 n_disk_Disk_Drop [.pointer (some ⟨d, 0, none⟩), .string k] I ah (fun v I' ah' => IM.le I I' ∧ v = .int .i64 (codeC c k : Nat) ∧ Evo ofD ρ ah ρ ah' ∧ Dk ρ I' ah' d room true lives (c.set k none) sz) := by
  obtain ⟨fs, h, hF, hN, hsz, rfl⟩ := hd
  refine (drop_spec w0 I ah ρ d room true lives fs h k hk).mono ?_
  rintro v I' ah' hI ⟨e, he, hD⟩
  refine ⟨hI, by rw [e, findE_co fs gk]; rfl, he, _, hD, ?_⟩
  unfold dropF
  rw [findE_co fs gk]
  cases hc : cof fs k with
  | none =>
    rw [if_neg (show ¬ (none : Option (List UInt8 × List (List UInt8))).isSome = true by simp), if_neg (show ¬ 4 = 0 by decide)]
    refine ⟨hF, hN, hsz, ?_⟩
    funext j; unfold Cont.set
    by_cases hj : j = k
    · rw [if_pos hj, hj]; exact hc
    · rw [if_neg hj]
  | some u =>
    simp only [Option.isSome_some, if_true]
    have hsub := delF_sub k fs
    have hs := delF_sz k fs
    exact ⟨⟨by have := hF.1; omega, hF.2.1, fun y hy => hF.2.2 y (hsub.mem hy)⟩, hN.sublist (hsub.map _), by omega, cof_del k fs hN⟩
theorem kon (hd : Dk ρ I ah d room on lives c sz) (hl : lives < 1000000) :
    SC P w0 n_disk_Disk_On [.pointer (some ⟨d, 0, none⟩)] I ah (fun v I' ah' => I = I' ∧ Evo ofD ρ ah ρ ah' ∧ Dk ρ I' ah' d room true (lives + 1) c sz) := by
  obtain ⟨fs, h, hF, hN, hsz, rfl⟩ := hd
  refine (on_spec w0 I ah ρ d room on lives fs h hl).mono ?_
  rintro v I' ah' hI ⟨e, he, hD⟩
  exact ⟨e, he, fs, hD, hF, hN, hsz, rfl⟩
theorem knew (n : Nat) (h64 : 64 ≤ n) (hn : n ≤ 1048576) :
    SC P w0 n_disk_New [.int .i64 (n : Nat)] I ah (fun v I' ah' => ∃ d ρ', v = .tuple #[.pointer (some ⟨d, 0, none⟩), .int .i64 0] ∧ Evo (fun _ => False) ρ ah ρ' ah' ∧ Dk ρ' I' ah' d n true 1 (fun _ => none) 0) := by
  refine (dnew_spec w0 I ah ρ n h64 hn).mono ?_
  rintro v I' ah' hI ⟨d, ρ', e, he, hD⟩
  exact ⟨d, ρ', e, he, [], hD, ⟨by simp [fsSize], hn, by simp⟩, by simp, by simp [fsSize], rfl⟩
end Dk

end Go.Proofs.YthdpebagkfloaaaDoor

