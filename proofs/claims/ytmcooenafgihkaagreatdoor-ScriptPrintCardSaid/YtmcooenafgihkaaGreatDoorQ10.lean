/- Helper lemmas: a step as a line, by the reference, for all steps. No condition. -/
import Derived.Test.YtmcooenafgihkaaGreatDoorQ8
set_option linter.unusedSimpArgs false
set_option linter.unusedVariables false
namespace Go.Proofs.YtmcooenafgihkaaGreatDoor
open Go.RowKit

instance : DecidablePred isRL := fun c => by unfold isRL; infer_instance
theorem stepR_ok : ∀ i, i < 13 → ¬ i = 0 → ((argsAt stepF i).map bigN).length ≤ 4 ∧ ∀ c ∈ (argsAt stepF i).map bigN, c = 107 ∨ isRL c := by decide +kernel
theorem callR_ok : ∀ i, i < 19 → (112 :: argsAt callF i).length ≤ 4 ∧ ∀ c ∈ (112 :: argsAt callF i), c = 107 ∨ isRL c := by decide +kernel
theorem stepR_word : ∀ i, i < 13 → ¬ (stepF.getD i ([], [])).1 = [] := by decide +kernel
theorem callR_word : ∀ i, i < 19 → ¬ (callF.getD i ([], [])).1 = [] := by decide +kernel
theorem word_full {l : Bs} (h : ¬ l = []) : (⟨l.toArray⟩ : ByteArray).toList.isEmpty = false := by
  refine nonempty_of_size ?_
  cases l with
  | nil => exact absurd rfl h
  | cons => exact Nat.succ_pos _
theorem outL_one {t : Bs} (h : Wd t) : OutL [t] ⟨t.toArray⟩ := ⟨rfl, by simp, fun u hu => by rw [List.mem_singleton] at hu; subst hu; exact h⟩
theorem outL_more {l : List Bs} {out : ByteArray} (h : OutL l out) {t : Bs} (ht : Wd t) (T : ByteArray) (hT : T = ⟨t.toArray⟩) : OutL (l ++ [t]) (out ++ ⟨#[32]⟩ ++ T) := by
  rw [ByteArray.append_assoc]
  exact h.snoc ht _ (app_bytes _ [32] _ _ rfl hT)
theorem rtext_any (s : StepR) (AK : Option Addr) (mk ck : Nat) (w : World) (hf : s.Fine) (hm : s.Small) (hk : s.keep.length = mk) (hk2 : mk ≤ 100000) (hK : IntsAt w AK s.keep) : Calls Tryz.prog 29 #[.agg #[.int .i64 s.kind, .int .i64 s.rep, .string s.vol, .string s.dst, .int .i64 s.n, .slice AK mk ck, .int .i64 s.ck, .string s.path, .string s.cto, .int .i64 s.off, .int .i64 s.cn, .string s.data, f64 s.time]] w (LineP (textW s) w) := by
  rw [textW_eq]
  have HST := Lib.hid (fun W => rstep_any s.kind W)
  cases hfm : formAt stepF s.kind with
  | none =>
    have e : textV s = none := by unfold textV; rw [hfm]
    rw [e]
    exact rtext_bad s _ w hfm
  | some z =>
    obtain ⟨i, hki, hi, hz⟩ := formAt_some hfm
    have hw := stepWd i hi
    have hwn := stepR_word i hi
    have hso := stepR_ok i hi
    unfold argsAt at hso
    rw [hz] at hw hwn hso
    obtain ⟨fw, cs⟩ := z
    simp only at hw hwn hso
    have hfw : Wd fw := ⟨by have := hw.1.1; omega, hw.1.2⟩
    have es : stepK s.kind = (fw, cs.map bigN) := by unfold stepK; rw [hfm]
    rw [es] at HST
    by_cases h1 : s.kind = 1
    · have hb : (s.kind == 1) = true := by simpa using h1
      have HCA := Lib.hid (fun W => rcall_any s.ck W)
      cases hcm : formAt callF s.ck with
      | none =>
        have e : textV s = none := by unfold textV; rw [hfm]; simp only; rw [if_pos h1, hcm]
        have ec : callK s.ck = ([], []) := by unfold callK; rw [hcm]
        rw [ec] at HCA
        exact rtext_callbad s AK mk ck w _ (Lib.hid hf) (Lib.hid hm) (Lib.hid hk) (Lib.hid hk2) (Lib.hid (by omega)) (Lib.hid hK) ⟨fw.toArray⟩ ⟨(cs.map bigN).toArray⟩ HST (word_full hwn) hb HCA (Lib.hid e)
      | some z =>
        obtain ⟨j, hkj, hj, hzj⟩ := formAt_some hcm
        have hv := callWd j hj
        have hvn := callR_word j hj
        have hco := callR_ok j hj
        unfold argsAt at hco
        rw [hzj] at hv hvn hco
        obtain ⟨cw, ds⟩ := z
        simp only at hv hvn hco
        have hcw : Wd cw := ⟨by have := hv.1.1; omega, hv.1.2⟩
        have ec : callK s.ck = (cw, 112 :: ds) := by unfold callK; rw [hcm]
        rw [ec] at HCA
        have hR : textV s = (flds (fldR s) (112 :: ds)).map fun l => [fw, Lib.itoa s.rep, wordL s.vol.data.toList, cw] ++ l := by
          unfold textV; rw [hfm]; simp only; rw [if_pos h1, hcm]; rfl
        have hD := itoa_wd _ hf.rep
        have hV := word_wd _ hm.vol
        have o1 := outL_one hfw
        have o2 := outL_more o1 hD _ rfl
        have o3 := outL_more o2 hV _ rfl
        have o4 := outL_more o3 hcw _ rfl
        have s1 : (⟨fw.toArray⟩ : ByteArray).size = fw.length := rfl
        have s2 : (⟨(Lib.itoa s.rep).toArray⟩ : ByteArray).size = (Lib.itoa s.rep).length := rfl
        have s3 : (⟨(wordL s.vol.data.toList).toArray⟩ : ByteArray).size = (wordL s.vol.data.toList).length := rfl
        have s4 : (⟨cw.toArray⟩ : ByteArray).size = cw.length := rfl
        have l1 := hfw.len
        have l2 := hD.len
        have l3 := hV.len
        have l4 := hcw.len
        exact rtext_call s AK mk ck w _ (Lib.hid hf) (Lib.hid hm) (Lib.hid hk) (Lib.hid hk2) (Lib.hid (by omega)) (Lib.hid hK) ⟨fw.toArray⟩ ⟨(cs.map bigN).toArray⟩ ⟨cw.toArray⟩ (112 :: ds) ⟨(112 :: ds).toArray⟩ (112 :: ds).length (Lib.hid rfl) (Lib.hid rfl) rfl (Lib.hid hco.1) (Lib.hid hco.2) HST (word_full hwn) hb HCA (word_full hvn) _ _ (Lib.hid fun W => digits_any _ hf.rep W) (Lib.hid fun W => rword_any _ W hm.vol)
          (eq_false (by omega)) (eq_false (by omega)) (eq_false (by omega)) (eq_false (by omega)) (eq_false (by omega)) (eq_false (by omega)) (Lib.hid ⟨_, o4, by simp, by omega, by unfold Goes; rw [List.drop_zero]; exact hR⟩)
    · have hb : (s.kind == 1) = false := by simpa using h1
      have h0 : ¬ i = 0 := by omega
      obtain ⟨ha, hlet⟩ := hso h0
      have hR : textV s = (flds (fldR s) (cs.map bigN)).map fun l => [fw] ++ l := by
        unfold textV; rw [hfm]; simp only; rw [if_neg h1]; rfl
      exact rtext_plain s AK mk ck w _ (Lib.hid hf) (Lib.hid hm) (Lib.hid hk) (Lib.hid hk2) (Lib.hid (by omega)) (Lib.hid hK) ⟨fw.toArray⟩ (cs.map bigN) ⟨(cs.map bigN).toArray⟩ (cs.map bigN).length (Lib.hid rfl) (Lib.hid rfl) rfl (Lib.hid ha) (Lib.hid hlet) HST (word_full hwn) hb (Lib.hid ⟨_, outL_one hfw, by simp, by omega, by unfold Goes; rw [List.drop_zero]; exact hR⟩)
end Go.Proofs.YtmcooenafgihkaaGreatDoor
