/- The law TreeKeeps: what is left of a tree by its calls, as plain data. Conditions: none. -/
import Derived.Test.YtjcidnbgbdibaaaDoorTPa
import Derived.Test.YtjcidnbgbdibaaaDoorAb7
namespace Go.Proofs.YtjcidnbgbdibaaaDoor.tre
open Go Go.Abs
set_option linter.unusedVariables false
set_option linter.unusedSimpArgs false

def pf : Pth := [102]
def pg : Pth := [46, 116, 109, 112, 47, 102]
theorem ok_f : okP pf = true := by decide +kernel
theorem ok_g : okP pg = true := by decide +kernel
theorem left_same (x : List Nat) (n : Nat) (part : Int) : leftF ⟨x, x, n⟩ part = x := by
  unfold leftF
  simp [Nat.mod_one]
theorem pfg : (pf = pg) = False := by decide
theorem lfg : lessA pf pg = false := by decide
theorem lgf : lessA pg pf = true := by decide
theorem pgf : (pg = pf) = False := by decide
section
variable (a b c : List Nat)
def K1 : TT := ⟨10000, [(pf, 0)], [], [.mk pf 0], 1, false, -1, [⟨[], [], 1⟩]⟩
def K2 : TT := ⟨10000, [(pf, 0)], [], [.mk pf 0], 2, false, -1, [⟨a, [], 2⟩]⟩
def K3 : TT := ⟨10000, [(pf, 0)], [], [.mk pf 0], 2, false, -1, [⟨a, a, 2⟩]⟩
def K4 : TT := ⟨10000, [(pf, 0)], [(pf, 0)], [], 2, false, -1, [⟨a, a, 2⟩]⟩
def K5 : TT := ⟨10000, [(pf, 0), (pg, 1)], [(pf, 0)], [.mk pg 1], 3, false, -1, [⟨a, a, 2⟩, ⟨[], [], 3⟩]⟩
def K6 : TT := ⟨10000, [(pf, 0), (pg, 1)], [(pf, 0)], [.mk pg 1], 4, false, -1, [⟨a, a, 2⟩, ⟨b, [], 4⟩]⟩
def K7 : TT := ⟨10000, [(pf, 0), (pg, 1)], [(pf, 0)], [.mk pg 1], 4, false, -1, [⟨a, a, 2⟩, ⟨b, b, 4⟩]⟩
def K8 : TT := ⟨10000, [(pf, 1)], [(pf, 0)], [.mk pg 1, .ren pg pf], 5, false, -1, [⟨a, a, 2⟩, ⟨b, b, 4⟩]⟩
theorem k1 : makeT (newT 10000) true pf = (0, K1) := rfl
theorem k2 (ha : a.length ≤ 300) : (putT K1 true pf fun _ => a) = (0, K2 a) := by
  have : ¬ (10000 : Int) < ((0 : Nat) : Int) - ((0 : Nat) : Int) + (a.length : Nat) := by omega
  show (if (10000 : Int) < ((0 : Nat) : Int) - ((0 : Nat) : Int) + (a.length : Nat) then _ else _) = _
  rw [if_neg this]
  rfl
theorem k3 : syncT (K2 a) true pf = (0, K3 a) := rfl
theorem k4 : syncPT (K3 a) = (0, K4 a) := rfl
theorem k5 : makeT (K4 a) true pg = (0, K5 a) := rfl
theorem k6 (ha : a.length ≤ 300) (hb : b.length ≤ 300) : (putT (K5 a) true pg fun _ => b) = (0, K6 a b) := by
  have : ¬ (10000 : Int) < ((a.length + (0 + 0) : Nat) : Int) - ((0 : Nat) : Int) + (b.length : Nat) := by omega
  show (if (10000 : Int) < ((a.length + (0 + 0) : Nat) : Int) - ((0 : Nat) : Int) + (b.length : Nat) then _ else _) = _
  rw [if_neg this]
  rfl
theorem k7 : syncT (K6 a b) true pg = (0, K7 a b) := rfl
theorem k8 : renT (K7 a b) true pg pf = (0, K8 a b) := rfl
/-- After the crash: path f has w in file i with stamp s; path g is there with b or not. -/
def Kc (k : Nat) : TT := if k = 0 then ⟨10000, [(pf, 2)], [(pf, 2)], [], 7, false, -1, [⟨a, a, 2⟩, ⟨b, b, 4⟩, ⟨a, a, 7⟩]⟩
  else if k = 1 then ⟨10000, [(pg, 2), (pf, 3)], [(pg, 2), (pf, 3)], [], 8, false, -1, [⟨a, a, 2⟩, ⟨b, b, 4⟩, ⟨b, b, 7⟩, ⟨a, a, 8⟩]⟩
  else ⟨10000, [(pf, 2)], [(pf, 2)], [], 6, false, -1, [⟨a, a, 2⟩, ⟨b, b, 4⟩, ⟨b, b, 4⟩]⟩
theorem k9 (keep : Int) (ps : List Int) : crashT (K8 a b) keep ps = Kc a b ((max 0 keep).toNat % 3) := by
  have hk : (max 0 keep).toNat % 3 = 0 ∨ (max 0 keep).toNat % 3 = 1 ∨ (max 0 keep).toNat % 3 = 2 := by omega
  have e : (max 0 keep).toNat % ((K8 a b).notes.length + 1) = (max 0 keep).toNat % 3 := rfl
  unfold crashT
  dsimp only
  rw [e]
  rcases hk with h | h | h
  · rw [h]
    simp [K8, keepT, doAll, Kc, sortS, insS, crashL, crash1, valS, TT.fil, left_same, updS]
  · rw [h]
    simp [K8, keepT, doAll, doN, Kc, sortS, insS, crashL, crash1, valS, TT.fil, left_same, updS, pfg, pgf, lgf, lfg]
  · rw [h]
    simp [K8, keepT, doAll, doN, Kc, sortS, insS, crashL, crash1, valS, TT.fil, left_same, updS, delS, pfg, pgf]
def wk (k : Nat) : List Nat := if k = 2 then b else a
def Kd (k : Nat) : TT := if k = 0 then ⟨10000, [(pf, 2)], [(pf, 2)], [], 8, false, -1, [⟨a, a, 2⟩, ⟨b, b, 4⟩, ⟨a ++ c, a, 8⟩]⟩
  else if k = 1 then ⟨10000, [(pg, 2), (pf, 3)], [(pg, 2), (pf, 3)], [], 9, false, -1, [⟨a, a, 2⟩, ⟨b, b, 4⟩, ⟨b, b, 7⟩, ⟨a ++ c, a, 9⟩]⟩
  else ⟨10000, [(pf, 2)], [(pf, 2)], [], 7, false, -1, [⟨a, a, 2⟩, ⟨b, b, 4⟩, ⟨b ++ c, b, 7⟩]⟩
def Ke (k : Nat) : TT := if k = 0 then ⟨10000, [(pf, 2)], [(pf, 2)], [], 8, false, -1, [⟨a, a, 2⟩, ⟨b, b, 4⟩, ⟨a ++ c, a ++ c, 8⟩]⟩
  else if k = 1 then ⟨10000, [(pg, 2), (pf, 3)], [(pg, 2), (pf, 3)], [], 9, false, -1, [⟨a, a, 2⟩, ⟨b, b, 4⟩, ⟨b, b, 7⟩, ⟨a ++ c, a ++ c, 9⟩]⟩
  else ⟨10000, [(pf, 2)], [(pf, 2)], [], 7, false, -1, [⟨a, a, 2⟩, ⟨b, b, 4⟩, ⟨b ++ c, b ++ c, 7⟩]⟩
def Kf (k : Nat) : TT := if k = 0 then ⟨10000, [(pf, 3)], [(pf, 3)], [], 9, false, -1, [⟨a, a, 2⟩, ⟨b, b, 4⟩, ⟨a ++ c, a ++ c, 8⟩, ⟨a ++ c, a ++ c, 8⟩]⟩
  else if k = 1 then ⟨10000, [(pg, 4), (pf, 5)], [(pg, 4), (pf, 5)], [], 10, false, -1, [⟨a, a, 2⟩, ⟨b, b, 4⟩, ⟨b, b, 7⟩, ⟨a ++ c, a ++ c, 9⟩, ⟨b, b, 7⟩, ⟨a ++ c, a ++ c, 9⟩]⟩
  else ⟨10000, [(pf, 3)], [(pf, 3)], [], 8, false, -1, [⟨a, a, 2⟩, ⟨b, b, 4⟩, ⟨b ++ c, b ++ c, 7⟩, ⟨b ++ c, b ++ c, 7⟩]⟩
theorem k10 {k : Nat} (hk : k < 3) : readT (Kc a b k) true pf = (wk a b k, 0, Kc a b k) ∧ (statT (Kc a b k) pg).2.2 = decide (k = 1) := by
  obtain rfl | rfl | rfl : k = 0 ∨ k = 1 ∨ k = 2 := by omega
  · exact ⟨rfl, rfl⟩
  · exact ⟨rfl, rfl⟩
  · exact ⟨rfl, rfl⟩
theorem k11 {k : Nat} (hk : k < 3) (ha : a.length ≤ 300) (hb : b.length ≤ 300) (hc : c.length ≤ 300) : (putT (Kc a b k) true pf fun o => o ++ c) = (0, Kd a b c k) := by
  obtain rfl | rfl | rfl : k = 0 ∨ k = 1 ∨ k = 2 := by omega
  · show (if (10000 : Int) < ((a.length + 0 : Nat) : Int) - ((a.length : Nat) : Int) + (((a ++ c).length : Nat) : Int) then _ else _) = _
    rw [if_neg (by rw [List.length_append]; omega)]
    rfl
  · show (if (10000 : Int) < ((b.length + (a.length + 0) : Nat) : Int) - ((a.length : Nat) : Int) + (((a ++ c).length : Nat) : Int) then _ else _) = _
    rw [if_neg (by rw [List.length_append]; omega)]
    rfl
  · show (if (10000 : Int) < ((b.length + 0 : Nat) : Int) - ((b.length : Nat) : Int) + (((b ++ c).length : Nat) : Int) then _ else _) = _
    rw [if_neg (by rw [List.length_append]; omega)]
    rfl
theorem k12 {k : Nat} (hk : k < 3) : syncT (Kd a b c k) true pf = (0, Ke a b c k) ∧ syncPT (Ke a b c k) = (0, Ke a b c k) := by
  obtain rfl | rfl | rfl : k = 0 ∨ k = 1 ∨ k = 2 := by omega
  · exact ⟨rfl, rfl⟩
  · exact ⟨rfl, rfl⟩
  · exact ⟨rfl, rfl⟩
theorem k13 {k : Nat} (hk : k < 3) (keep : Int) (ps : List Int) : crashT (Ke a b c k) keep ps = Kf a b c k := by
  obtain rfl | rfl | rfl : k = 0 ∨ k = 1 ∨ k = 2 := by omega
  · simp [crashT, Ke, keepT, doAll, Kf, sortS, insS, crashL, crash1, valS, TT.fil, left_same, updS]
  · simp [crashT, Ke, keepT, doAll, Kf, sortS, insS, crashL, crash1, valS, TT.fil, left_same, updS, pfg, pgf, lgf, lfg]
  · simp [crashT, Ke, keepT, doAll, Kf, sortS, insS, crashL, crash1, valS, TT.fil, left_same, updS]
theorem k14 {k : Nat} (hk : k < 3) : readT (Kf a b c k) true pf = (wk a b k ++ c, 0, Kf a b c k) ∧ ∃ st, statT (Ke a b c k) pf = ((wk a b k ++ c).length, st, true) ∧ statT (Kf a b c k) pf = ((wk a b k ++ c).length, st, true) := by
  obtain rfl | rfl | rfl : k = 0 ∨ k = 1 ∨ k = 2 := by omega
  · exact ⟨rfl, _, rfl, rfl⟩
  · exact ⟨rfl, _, rfl, rfl⟩
  · exact ⟨rfl, _, rfl, rfl⟩
theorem k9s (k : Nat) : (keepT (K8 a b) k).safe.length ≤ 16384 := by
  rcases k with _ | _ | k
  · show 1 ≤ 16384; decide
  · show 2 ≤ 16384; decide
  · have : (keepT (K8 a b) (k + 2)).safe = [(pf, 1)] := by simp [keepT, K8, doAll, doN, valS, updS, delS, pfg, pgf]
    show (keepT (K8 a b) (k + 2)).safe.length ≤ 16384
    rw [this]; decide
theorem k13s {k : Nat} (hk : k < 3) (n : Nat) : (keepT (Ke a b c k) n).safe.length ≤ 16384 := by
  obtain rfl | rfl | rfl : k = 0 ∨ k = 1 ∨ k = 2 := by omega
  · have : (keepT (Ke a b c 0) n).safe = [(pf, 2)] := by simp [keepT, Ke, doAll]
    rw [this]; decide
  · have : (keepT (Ke a b c 1) n).safe = [(pg, 2), (pf, 3)] := by simp [keepT, Ke, doAll]
    rw [this]; decide
  · have : (keepT (Ke a b c 2) n).safe = [(pf, 2)] := by simp [keepT, Ke, doAll]
    rw [this]; decide
end
end Go.Proofs.YtjcidnbgbdibaaaDoor.tre
