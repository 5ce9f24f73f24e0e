/- Helper lemmas: what stands between blanks, by the reference. No condition. -/
import Derived.Test.YtmcooenafgihkaaGreatDoorQ2
import Derived.Test.YtmcooenafgihkaaGreatDoorS9
import Derived.Test.YtmcooenafgihkaaGreatDoorP9
set_option linter.unusedSimpArgs false
set_option linter.unusedVariables false
namespace Go.Proofs.YtmcooenafgihkaaGreatDoor
open Go.RowKit

/-- Words of one's own come back. -/
def WordsC (l : List Bs) (w : World) (e : Ending) (w' : World) : Prop := ∃ (A : Option Addr) (m c : Nat), e = .returned (.slice A m c) ∧ Below w.heap.size w w' ∧ OwnS w' w.heap.size (.slice A m c) l
theorem WordsC.mk {l : List Bs} {w w' : World} {A : Option Addr} {m c : Nat} (hb : Below w.heap.size w w') (ho : OwnS w' w.heap.size (.slice A m c) l) : WordsC l w (.returned (.slice A m c)) w' := ⟨A, m, c, rfl, hb, ho⟩
theorem cast1R (j : Nat) : Value.int .i64 ((j : Int) + 1) = .int .i64 ((j + 1 : Nat) : Int) := by rw [Int.natCast_add]; rfl
theorem byte_at2 (s : ByteArray) (i : Nat) (h : i < s.size) : s[i]'h = s.data.toList.getD i 0 := by
  rw [List.getD_eq_getElem?_getD, List.getElem?_eq_getElem (by simpa using h)]
  simp [ByteArray.getElem_eq_getElem_data]
theorem cur_app (cur : Bs) (c : UInt8) : (⟨cur.toArray⟩ : ByteArray) ++ ⟨#[c]⟩ = ⟨(cur ++ [c]).toArray⟩ := app_bytes _ cur _ [c] rfl rfl
theorem cur_size (cur : Bs) : (⟨cur.toArray⟩ : ByteArray).size = cur.length := rfl
set_option maxHeartbeats 8000000 in
set_option maxRecDepth 100000 in
theorem rwords_any (s : ByteArray) (w : World) (hs : s.size ≤ 30000) : Calls Tryz.prog 37 #[.string s] w (WordsC (cutC 32 s.data.toList) w) := by
  obtain ⟨n, hn⟩ : ∃ n, s.size = n := ⟨_, rfl⟩
  have HN := Lib.hid (show s.data.toList.length = n by rw [Array.length_toList]; exact hn)
  have HNB := Lib.hid (show n ≤ 30000 by omega)
  clear hs
  go_enter Tryz.func37, Tryz.ntmps37
  go_wp2
  go_loopw [3, 4, 8] (fun v3 v4 v8 wr => ∃ (i : Nat) (acc : List Bs) (cur : Bs) (A : Option Addr) (m c : Nat) (q : ByteArray), i ≤ n ∧ v8 = .int .i64 (i : Int) ∧ v4 = .string q ∧ v3 = .slice A m c ∧ Hid (q = ⟨cur.toArray⟩) ∧ Hid (CutS 32 s.data.toList i acc cur) ∧ Hid (acc.length ≤ i) ∧ Hid (cur.length ≤ i) ∧ Hid (OwnS wr w.heap.size (.slice A m c) acc) ∧ Hid (Below w.heap.size w wr)) (fun _ _ v8 _ => ((n : Int) - intOf v8).toNat)
  case atStart => exact ⟨0, [], [], none, 0, 0, ⟨#[]⟩, Nat.zero_le _, rfl, rfl, rfl, Lib.hid rfl, Lib.hid (CutS.start _ _), Lib.hid (Nat.le_refl _), Lib.hid (Nat.le_refl _), Lib.hid ⟨rfl, Or.inl ⟨rfl, rfl⟩⟩, Lib.hid (Below.refl _ _)⟩
  case round =>
    obtain ⟨i, acc, cur, A, m, c, q, hi, rfl, rfl, rfl, HQ, HC, HA, HU, HO, HB⟩ := hrel
    by_cases hin : i = n
    · subst hin
      obtain ⟨v2, w2, happ, hown, hb2, -⟩ := app_str w.heap.size wr (.slice A m c) acc cur HO.out HB.out.size (by have := HA.out; have := HNB.out; omega)
      obtain ⟨A2, m2, c2, rfl⟩ := own_sl hown
      rw [show str cur = Value.string q by rw [HQ.out]] at happ
      have HE := Lib.hid (HC.out.done (by rw [HN.out]; omega))
      have HO2 : Hid (OwnS w2 w.heap.size (.slice A2 m2 c2) (acc ++ [cur])) := Lib.hid hown
      have HB2 := Lib.hid (HB.out.trans hb2)
      clear hown hb2
      go_wp2_with (at_builtin; refine app_step 35 _ _ rfl rfl rfl rfl rfl happ ?_)
      go_ret
      exact WordsC.mk HB2.out (by rw [HE.out]; exact HO2.out)
    · have hlt : (i : Int) < (n : Int) := by omega
      have hge : (0 : Int) ≤ (i : Int) := by omega
      have hnl : ¬ (i : Int) < 0 := by omega
      have hle : (i : Int) + 1 ≤ (n : Int) := by omega
      have hle2 : (i : Int) ≤ (i : Int) + 1 := by omega
      have ht1 : ((i : Int) + 1).toNat = i + 1 := by omega
      have hwr : wrap64 ((i : Int) + 1) = (i : Int) + 1 := by have := HNB.out; rw [wrap64_eq]; omega
      have hidx : ∀ h : i < s.size, s[i]'h = s.data.toList.getD i 0 := fun h => by
        rw [List.getD_eq_getElem?_getD, List.getElem?_eq_getElem (by simpa using h)]
        simp [ByteArray.getElem_eq_getElem_data]
      have hx : s.data.toList[i]? = some (s.data.toList.getD i 0) := by
        rw [List.getD_eq_getElem?_getD, List.getElem?_eq_getElem (by rw [HN.out]; omega)]
        rfl
      obtain ⟨d, hd⟩ : ∃ d, s.data.toList.getD i 0 = d := ⟨_, rfl⟩
      have hex1 := extract_one s i (by omega) d hd
      rw [hd] at hidx hx
      have HX := Lib.hid hx
      clear hd hx
      by_cases hc : d = 32
      · subst hc
        obtain ⟨v2, w2, happ, hown, hb2, -⟩ := app_str w.heap.size wr (.slice A m c) acc cur HO.out HB.out.size (by have := HA.out; have := HNB.out; omega)
        obtain ⟨A2, m2, c2, rfl⟩ := own_sl hown
        rw [show str cur = Value.string q by rw [HQ.out]] at happ
        have HO2 : Hid (OwnS w2 w.heap.size (.slice A2 m2 c2) (acc ++ [cur])) := Lib.hid hown
        have HB2 := Lib.hid (HB.out.trans hb2)
        clear hown hb2 hex1
        go_wp2_with (at_builtin; refine app_step 35 _ _ rfl rfl rfl rfl rfl happ ?_)
        go_roundw
        case rel => exact ⟨i + 1, acc ++ [cur], [], A2, m2, c2, ⟨#[]⟩, by omega, by first | exact cast1R _ | (rw [hwr]; exact cast1R _), rfl, rfl, Lib.hid rfl, Lib.hid (HC.out.hit HX.out), Lib.hid (by have := HA.out; simp; exact this), Lib.hid (Nat.zero_le _), HO2, HB2⟩
        case measure => first | (rw [intOf_lit, intOf_lit, hwr]; omega) | (rw [intOf_lit, intOf_lit]; omega)
      · have hb1 : ((d.toNat : Int) == 32) = false := by
          rw [beq_eq_false_iff_ne]
          intro e
          exact hc (UInt8.toNat_inj.1 (by show d.toNat = 32; omega))
        have HAL := Lib.hid (show q.size ≤ 30000 by rw [HQ.out, cur_size]; have := HU.out; have := HNB.out; omega)
        have hz1 : (9223372036854775807 < q.size + 1) = False := eq_false (by have := HAL.out; omega)
        have hz2 : (9223372036854775807 < q.size + (⟨#[d]⟩ : ByteArray).size) = False := eq_false (by have := HAL.out; have : (⟨#[d]⟩ : ByteArray).size = 1 := rfl; omega)
        have HC2 := Lib.hid (HC.out.miss HX.out hc)
        clear hc
        go_wp2
        go_roundw
        case rel => exact ⟨i + 1, acc, cur ++ [d], A, m, c, _, by omega, by first | exact cast1R _ | (rw [hwr]; exact cast1R _), rfl, rfl, Lib.hid (by rw [HQ.out]; exact cur_app _ _), HC2, Lib.hid (Nat.le_succ_of_le HA.out), Lib.hid (by rw [List.length_append, List.length_singleton]; exact Nat.succ_le_succ HU.out), HO, HB⟩
        case measure => first | (rw [intOf_lit, intOf_lit, hwr]; omega) | (rw [intOf_lit, intOf_lit]; omega)
end Go.Proofs.YtmcooenafgihkaaGreatDoor
