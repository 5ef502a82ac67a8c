/- Temporary files, as the program and as the document lays and cleans them: the same, as plain data. Conditions: none. -/
import Derived.Test.YthkdhdcbhpknnaaGreatDoorTZj
import Derived.Test.YthkdhdcbhpknnaaGreatDoorAb7
namespace Go.Proofs.YthkdhdcbhpknnaaGreatDoor.tre
open Go Go.Abs Go.Abs.Wal Go.Proofs
set_option maxRecDepth 100000
set_option linter.unusedVariables false
set_option linter.unusedSimpArgs false

/-- A path is no temporary file's. -/
theorem chk_no_tmp {s : Pth} (h : checkS s = 0) : preS s tmpS = false := by
 cases hp : preS s tmpS with
 | false => rfl
 | true =>
  exfalso
  have he : s.take 5 = [46, 116, 109, 112, 47] := by
   have : decide (s.take tmpS.length = tmpS) = true := hp
   simpa [tmpS] using this
  have hs : s = [46, 116, 109, 112, 47] ++ s.drop 5 := by rw [← he]; exact (List.take_append_drop 5 s).symm
  have hr : rightS s = true := by
   unfold checkS at h
   split at h
   ·cases h
   ·cases hr : rightS s with
    | true => rfl
    | false => rw [hr] at h; cases h
  have h4 : s[4]? = some 47 := by rw [hs]; rfl
  have hn : ∀ j, j < 4 → s[j]? ≠ some 47 := fun j hj => by
   rw [hs]
   match j, hj with
   | 0, _ => simp
   | 1, _ => simp
   | 2, _ => simp
   | 3, _ => simp
   | j + 4, hj => omega
  have hsp := spl_at hn h4
  unfold rightS at hr
  rw [hsp] at hr
  have ht : s.take 4 = [46, 116, 109, 112] := by rw [hs]; rfl
  rw [ht] at hr
  have : nameOK [46, 116, 109, 112] = false := by decide
  simp [this] at hr
theorem okP_pre {s : Pth} (h : okP s = true) : preS s tmpS = tempedS s := by
 unfold okP at h
 by_cases hc : checkS s = 0
 ·rw [chk_no_tmp hc]
  unfold tempedS
  rw [chk_no_tmp hc, Bool.false_and]
 ·have : decide (checkS s = 0) = false := by simpa using hc
  rw [this, Bool.false_or] at h
  rw [h]
  unfold tempedS at h
  exact (Bool.and_eq_true_iff.1 h).1
/-- The document's laying. -/
def remD (q : Pth) (R : TT) : Nat × TT := if (statT R q).2.2 = true then Go.Abs.rmL R true q else (0, R)
def layP (q : Pth) (b : List Nat) : List ((TT → Nat × TT) × (TT → Nat × TT)) := [(fun R => makeL R true q, fun T => makeT T true q), (fun R => putT R true q fun _ => b, fun T => putT T true q fun _ => b), (fun R => syncT R true q, fun T => syncT T true q)]
def layD (s : Pth) (b : List Nat) (R : TT) : (Pth × Nat) × TT :=
 if checkS s ≠ 0 then (([], checkS s), R) else
 if (remD (tmpS ++ s) R).1 ≠ 0 then (([], (remD (tmpS ++ s) R).1), (remD (tmpS ++ s) R).2) else
 if (stepsT ((layP (tmpS ++ s) b).map (·.1)) (remD (tmpS ++ s) R).2).1 ≠ 0 then (([], (stepsT ((layP (tmpS ++ s) b).map (·.1)) (remD (tmpS ++ s) R).2).1), (stepsT ((layP (tmpS ++ s) b).map (·.1)) (remD (tmpS ++ s) R).2).2) else
 ((tmpS ++ s, 0), (stepsT ((layP (tmpS ++ s) b).map (·.1)) (remD (tmpS ++ s) R).2).2)
theorem drRem {R T : TT} (h : DRt R T) (q : Pth) : (remD q R).1 = (remT q T).1 ∧ DRt (remD q R).2 (remT q T).2 := by
 unfold remD remT
 rw [h.stat q]
 split
 ·exact h.rm true q
 ·exact ⟨rfl, h⟩
theorem drSteps {R T : TT} (h : DRt R T) (q : Pth) (b : List Nat) : (stepsT ((layP q b).map (·.1)) R).1 = (stepsT (layL q b) T).1 ∧ DRt (stepsT ((layP q b).map (·.1)) R).2 (stepsT (layL q b) T).2 := by
 have e : (layP q b).map (·.2) = layL q b := rfl
 rw [← e]
 refine DRt.steps (layP q b) (fun x hx R T h => ?_) h
 simp only [layP, List.mem_cons, List.not_mem_nil, or_false] at hx
 rcases hx with rfl | rfl | rfl
 ·exact h.make true q
 ·exact h.put true q _
 ·exact h.sync true q
theorem drLay {R T : TT} (h : DRt R T) (s : Pth) (b : List Nat) : (layD s b R).1 = (layT s b T).1 ∧ DRt (layD s b R).2 (layT s b T).2 := by
 obtain ⟨e1, d1⟩ := drRem h (tmpS ++ s)
 obtain ⟨e2, d2⟩ := drSteps d1 (tmpS ++ s) b
 unfold layD layT
 by_cases c1 : checkS s ≠ 0
 ·rw [if_pos c1, if_pos c1]; exact ⟨rfl, h⟩
 ·rw [if_neg c1, if_neg c1, e1]
  by_cases c2 : (remT (tmpS ++ s) T).1 ≠ 0
  ·rw [if_pos c2, if_pos c2]; exact ⟨rfl, d1⟩
  ·rw [if_neg c2, if_neg c2, e2]
   by_cases c3 : (stepsT (layL (tmpS ++ s) b) (remT (tmpS ++ s) T).2).1 ≠ 0
   ·rw [if_pos c3, if_pos c3]; exact ⟨rfl, d2⟩
   ·rw [if_neg c3, if_neg c3]; exact ⟨rfl, d2⟩
theorem lvLay {d m c : Nat} {R : TT} (h : Lv okP d m c R) (s : Pth) (b : List Nat) : Lv okP (d + 1) (m + 2) (c + 3) (layD s b R).2 := by
 unfold layD
 by_cases c1 : checkS s ≠ 0
 ·rw [if_pos c1]; exact h.mono (Nat.le_succ _) (by omega) (by omega)
 ·rw [if_neg c1]
  have oq : okP (tmpS ++ s) = true := okP_tmp (by omega)
  generalize tmpS ++ s = q at oq ⊢
  have h1 : Lv okP d m (c + 1) (remD q R).2 := by
   unfold remD
   split
   ·exact h.rm _ _
   ·exact h.mono (Nat.le_refl _) (Nat.le_refl _) (Nat.le_succ _)
  by_cases c2 : (remD q R).1 ≠ 0
  ·rw [if_pos c2]; exact h1.mono (Nat.le_succ _) (by omega) (by omega)
  ·rw [if_neg c2]
   generalize (remD q R).2 = R1 at h1 ⊢
   have h4 : Lv okP (d + 1) (m + 2) (c + 3) (stepsT ((layP q b).map (·.1)) R1).2 := by
    have hm := h1.make q
    rw [oq] at hm
    have e : stepsT ((layP q b).map (·.1)) R1 = if (makeL R1 true q).1 ≠ 0 then makeL R1 true q else if (putT (makeL R1 true q).2 true q fun _ => b).1 ≠ 0 then putT (makeL R1 true q).2 true q fun _ => b else if (syncT (putT (makeL R1 true q).2 true q fun _ => b).2 true q).1 ≠ 0 then syncT (putT (makeL R1 true q).2 true q fun _ => b).2 true q else (0, (syncT (putT (makeL R1 true q).2 true q fun _ => b).2 true q).2) := rfl
    rw [e]
    have hp := hm.put true q fun _ => b
    have hs := hp.sync true q
    split
    ·exact hm.mono (Nat.le_refl _) (Nat.le_refl _) (by omega)
    ·split
     ·exact hp.mono (Nat.le_refl _) (Nat.le_refl _) (by omega)
     ·split <;> exact hs.mono (Nat.le_refl _) (Nat.le_refl _) (by omega)
   split
   ·exact h4
   ·exact h4
/-- The document's cleaning. -/
def rmsD (l : List Pth) (R : TT) : Nat × TT := stepsT (l.map fun q T => Go.Abs.rmL T true q) R
def cleanD (l : List Pth) (R : TT) : (Nat × Nat) × TT :=
 if (rmsD l R).1 ≠ 0 then ((0, (rmsD l R).1), (rmsD l R).2) else
 if l.length = 0 then ((0, 0), (rmsD l R).2) else
 if (syncPL (rmsD l R).2).1 ≠ 0 then ((0, (syncPL (rmsD l R).2).1), (syncPL (rmsD l R).2).2) else
 ((l.length, 0), (syncPL (rmsD l R).2).2)
theorem drRms {R T : TT} (h : DRt R T) (l : List Pth) : (rmsD l R).1 = (rmL l T).1 ∧ DRt (rmsD l R).2 (rmL l T).2 := by
 have := DRt.steps (l.map fun q => ((fun T => Go.Abs.rmL T true q, fun T => rmT T true q) : (TT → Nat × TT) × (TT → Nat × TT))) (fun x hx R T h => by
  obtain ⟨q, _, rfl⟩ := List.mem_map.1 hx
  exact h.rm true q) h
 rw [List.map_map, List.map_map] at this
 exact this
theorem drClean {R T : TT} (h : DRt R T) (l : List Pth) : (cleanD l R).1 = (cleanG l T).1 ∧ DRt (cleanD l R).2 (cleanG l T).2 := by
 obtain ⟨e1, d1⟩ := drRms h l
 obtain ⟨e2, d2⟩ := d1.syncP
 unfold cleanD cleanG
 rw [e1]
 by_cases c1 : (rmL l T).1 ≠ 0
 ·rw [if_pos c1, if_pos c1]; exact ⟨rfl, d1⟩
 ·rw [if_neg c1, if_neg c1]
  by_cases c2 : l.length = 0
  ·rw [if_pos c2, if_pos c2]; exact ⟨rfl, d1⟩
  ·rw [if_neg c2, if_neg c2, e2]
   by_cases c3 : (syncPT (rmL l T).2).1 ≠ 0
   ·rw [if_pos c3, if_pos c3]; exact ⟨rfl, d2⟩
   ·rw [if_neg c3, if_neg c3]; exact ⟨rfl, d2⟩
theorem lvClean {d m c : Nat} {R : TT} (h : Lv okP d m c R) (l : List Pth) : Lv okP d m (c + l.length) (cleanD l R).2 := by
 have h1 := Lv.rms l h
 have h2 := h1.syncP
 unfold cleanD
 show Lv okP d m (c + l.length) (if (rmsD l R).1 ≠ 0 then _ else _ : (Nat × Nat) × TT).2
 split
 ·exact h1
 ·split
  ·exact h1
  ·split
   ·exact h2
   ·exact h2
/-- All temporary files, of both. -/
theorem all_eq {R T : TT} (h : DRt R T) {d m c : Nat} (hl : Lv okP d m c R) : (R.now.map (·.1)).filter (fun a => preS a tmpS) = (sortS (T.now.map (·.1))).filter tempedS := by
 rw [h.keys]
 refine List.filter_congr fun a ha => ?_
 obtain ⟨e, he, rfl⟩ := List.mem_map.1 ha
 exact okP_pre (hl.key e he)
theorem paths_eq {R T : TT} (h : DRt R T) : (R.now.map (·.1)).filter (fun a => preS a []) = sortS (T.now.map (·.1)) := by
 rw [h.keys]
 exact List.filter_eq_self.2 fun a _ => by simp [preS]
/-- What is safe, by the document. -/
def safeD (R : TT) : List (Pth × List Nat) := R.safe.map fun e => (e.1, (R.fil e.2).s)
theorem safe_eq {R T : TT} (h : DRt R T) : safeD R = safeF T := by
 unfold safeD safeF
 rw [h.safe.keys, List.map_map]
 refine List.map_congr_left fun e he => ?_
 have hv : valS T.safe e.1 = some e.2 := by rw [← h.safe.val]; exact val_of_mem (riseE_once h.safe.rise) he
 show (e.1, (R.fil e.2).s) = (e.1, (T.fil ((valS T.safe e.1).getD 0)).s)
 rw [hv, h.fil]
 rfl
end Go.Proofs.YthkdhdcbhpknnaaGreatDoor.tre
