import Derived.Test.YtnbeagcmfcdklaaGreatMGen
import Derived.Test.YtnbeagcmfcdklaaGreatMGetF
/-! Package acceptor, the plain words: asks and answers as bytes, facts, what becomes of them. -/
namespace Go.Proofs.YtnbeagcmfcdklaaGreat
open Go.RowKit

def askOk (k key ver bal : Int) (n : Nat) : Bool := decide (0 ≤ key ∧ key < 281474976710656 ∧ n ≤ 4000 ∧ ((k = 1 ∧ 1 ≤ ver ∧ ver < 281474976710656 ∧ 1 ≤ bal ∧ bal < 281474976710656 ∧ n = 0) ∨ (k = 2 ∧ 1 ≤ ver ∧ ver < 281474976710656 ∧ 1 ≤ bal ∧ bal < 281474976710656) ∨ (k = 3 ∧ 1 ≤ ver ∧ ver < 281474976710656 ∧ bal = 0) ∨ (k = 4 ∧ ver = 0 ∧ bal = 0 ∧ n = 0)))
def ansOk (e ver pr ba : Int) (n : Nat) : Bool := decide (0 ≤ e ∧ e ≤ 255 ∧ 0 ≤ ver ∧ ver < 281474976710656 ∧ 0 ≤ pr ∧ pr < 281474976710656 ∧ 0 ≤ ba ∧ ba < 281474976710656 ∧ n ≤ 4000)
def bit (b : Bool) : Int := if b then 1 else 0
def threeB (a b c : Int) : List UInt8 := lowB a 6 ++ (lowB b 6 ++ lowB c 6)
def askB (k key ver bal : Int) (l : List UInt8) : List UInt8 := lowB k 1 ++ (threeB key ver bal ++ l)
def ansB (e ver pr ba : Int) (le : Bool) (l : List UInt8) : List UInt8 := lowB e 1 ++ (threeB ver pr ba ++ (lowB (bit le) 1 ++ l))
def putAskB (k key ver bal : Int) (l : List UInt8) : List UInt8 := if askOk k key ver bal l.length then frameB 3 (askB k key ver bal l) else []
def putAnsB (e ver pr ba : Int) (le : Bool) (l : List UInt8) : List UInt8 := if ansOk e ver pr ba l.length then frameB 4 (ansB e ver pr ba le l) else []
theorem threeB_length (a b c : Int) : (threeB a b c).length = 18 := by simp [threeB, lowB_length]
theorem askB_length (k key ver bal : Int) (l : List UInt8) : (askB k key ver bal l).length = 19 + l.length := by simp [askB, threeB_length, lowB_length]; omega
theorem ansB_length (e ver pr ba : Int) (le : Bool) (l : List UInt8) : (ansB e ver pr ba le l).length = 20 + l.length := by simp [ansB, threeB_length, lowB_length]; omega
theorem putAskB_length (k key ver bal : Int) (l : List UInt8) : (putAskB k key ver bal l).length ≤ 4100 := by
  unfold putAskB
  split
  · rename_i h
    have := of_decide_eq_true h
    rw [frame_length, askB_length]
    omega
  · simp
theorem putAnsB_length (e ver pr ba : Int) (le : Bool) (l : List UInt8) : (putAnsB e ver pr ba le l).length ≤ 4100 := by
  unfold putAnsB
  split
  · rename_i h
    have := of_decide_eq_true h
    rw [frame_length, ansB_length]
    omega
  · simp

def getAsk (l : List UInt8) : Option (Nat × Nat × Nat × Nat × List UInt8) :=
  match bodyF l 3 19 with
  | none => none
  | some x => if askOk (numOf (x.take 1)) (numOf ((x.drop 1).take 6)) (numOf ((x.drop 7).take 6)) (numOf ((x.drop 13).take 6)) (x.drop 19).length then some (numOf (x.take 1), numOf ((x.drop 1).take 6), numOf ((x.drop 7).take 6), numOf ((x.drop 13).take 6), x.drop 19) else none
def getAns (l : List UInt8) : Option (Nat × Nat × Nat × Nat × Bool × List UInt8) :=
  match bodyF l 4 20 with
  | none => none
  | some x => if numOf ((x.drop 19).take 1) ≤ 1 ∧ ansOk (numOf (x.take 1)) (numOf ((x.drop 1).take 6)) (numOf ((x.drop 7).take 6)) (numOf ((x.drop 13).take 6)) (x.drop 20).length = true then some (numOf (x.take 1), numOf ((x.drop 1).take 6), numOf ((x.drop 7).take 6), numOf ((x.drop 13).take 6), decide (numOf ((x.drop 19).take 1) = 1), x.drop 20) else none

theorem three_parts (h : UInt8) (a b c : Int) (l : List UInt8) : ((h :: (threeB a b c ++ l)).drop 1).take 6 = lowB a 6 ∧ ((h :: (threeB a b c ++ l)).drop 7).take 6 = lowB b 6 ∧ ((h :: (threeB a b c ++ l)).drop 13).take 6 = lowB c 6 ∧ (h :: (threeB a b c ++ l)).drop 19 = l := by
  refine ⟨rfl, rfl, rfl, rfl⟩
theorem getAsk_put (k key ver bal : Nat) (l : List UInt8) (h : askOk k key ver bal l.length = true) : getAsk (frameB 3 (askB k key ver bal l)) = some (k, key, ver, bal, l) := by
  have h0 := of_decide_eq_true h
  have hb : bodyF (frameB 3 (askB k key ver bal l)) 3 19 = some (askB k key ver bal l) := bodyF_frame 3 19 _ (by omega) (by rw [askB_length]; omega) (by rw [askB_length]; omega)
  unfold getAsk
  rw [hb]
  obtain ⟨e1, e2, e3, e4⟩ := three_parts (byteOf (k : Int) 0) key ver bal l
  have e0 : askB k key ver bal l = byteOf (k : Int) 0 :: (threeB key ver bal ++ l) := rfl
  have e5 : (askB k key ver bal l).take 1 = lowB (k : Int) 1 := rfl
  rw [← e0] at e1 e2 e3 e4
  simp only [e1, e2, e3, e4, e5]
  rw [numOf_low' (by omega), numOf_low' (by omega), numOf_low' (by omega), numOf_low' (by omega)]
  rw [if_pos h]
theorem getAns_put (e ver pr ba : Nat) (le : Bool) (l : List UInt8) (h : ansOk e ver pr ba l.length = true) : getAns (frameB 4 (ansB e ver pr ba le l)) = some (e, ver, pr, ba, le, l) := by
  have h0 := of_decide_eq_true h
  have hb : bodyF (frameB 4 (ansB e ver pr ba le l)) 4 20 = some (ansB e ver pr ba le l) := bodyF_frame 4 20 _ (by omega) (by rw [ansB_length]; omega) (by rw [ansB_length]; omega)
  unfold getAns
  rw [hb]
  obtain ⟨e1, e2, e3, e4⟩ := three_parts (byteOf (e : Int) 0) ver pr ba (lowB (bit le) 1 ++ l)
  have e0 : ansB e ver pr ba le l = byteOf (e : Int) 0 :: (threeB ver pr ba ++ (lowB (bit le) 1 ++ l)) := rfl
  have e5 : (ansB e ver pr ba le l).take 1 = lowB (e : Int) 1 := rfl
  rw [← e0] at e1 e2 e3 e4
  have e6 : (ansB e ver pr ba le l).drop 20 = l := rfl
  have e7 : ((ansB e ver pr ba le l).drop 19).take 1 = lowB (((if le then 1 else 0 : Nat) : Nat) : Int) 1 := by rw [e4]; cases le <;> rfl
  simp only [e1, e2, e3, e5, e6, e7]
  rw [numOf_low' (n := e) (by omega), numOf_low' (n := ver) (by omega), numOf_low' (n := pr) (by omega), numOf_low' (n := ba) (by omega), numOf_low' (n := if le then 1 else 0) (by cases le <;> simp)]
  rw [if_pos ⟨by cases le <;> simp, h⟩]
  cases le <;> rfl

/-! ### Facts -/
structure Fa where
  pr : Int
  ba : Int
  le : Bool
  va : List UInt8
deriving DecidableEq
def Fa.zero : Fa := ⟨0, 0, false, []⟩
abbrev Fs := List ((Int × Int) × Fa)
def Fs.get (F : Fs) (x : Int × Int) : Fa := ((F.find? (fun e => decide (x = e.1))).map (·.2)).getD Fa.zero
def Fs.set (F : Fs) (x : Int × Int) (f : Fa) : Fs := if F.any (fun e => decide (x = e.1)) then F.map (fun e => if x = e.1 then (e.1, f) else e) else F ++ [(x, f)]
/-- What becomes of a fact: prepare, accept, learn. -/
def doA (k : Int) (f : Fa) (bal : Int) (v : List UInt8) : Fa × Int :=
  if k = 1 then (if bal ≤ f.pr then (f, 34) else (⟨bal, f.ba, f.le, f.va⟩, 0))
  else if k = 2 then (if bal < f.pr ∨ (f.le = true ∧ f.va ≠ v) then (f, 34) else if f.le then (f, 0) else (⟨bal, bal, false, v⟩, 0))
  else (if f.le then (f, 0) else (⟨f.pr, max 1 f.ba, true, v⟩, 0))
def factB (ver : Int) (f : Fa) : List UInt8 := threeB ver f.pr f.ba ++ (lowB (bit f.le) 1 ++ f.va)
/-- A fact is kept, if it is another one: the error, what lies behind it. -/
def keepA (F : Fs) (S : St) (D : Dk) (key ver : Int) (f : Fa) : Int × Fs × St × Dk :=
  if F.get (key, ver) = f then (0, F, S, D)
  else if tailF S key ≤ 4095 then
    (if (putF S D key (tailF S key) (factB ver f) false).1 = 0 then (0, F.set (key, ver) f, (putF S D key (tailF S key) (factB ver f) false).2)
     else ((putF S D key (tailF S key) (factB ver f) false).1, F, (putF S D key (tailF S key) (factB ver f) false).2))
  else (7, F, S, D)
/-- The greatest version with something, as far as the facts of a list go. -/
def bestA (key : Int) (F : Fs) : Int := F.foldl (fun b e => if e.1.1 = key ∧ 0 < e.2.ba ∧ b < e.1.2 then e.1.2 else b) 0
structure Ans where
  e : Int
  ver : Int
  f : Fa
/-- What an ask that may be is answered; what lies behind it. -/
def answerA (F : Fs) (S : St) (D : Dk) (k key ver bal : Int) (v : List UInt8) : Ans × Fs × St × Dk :=
  if k = 4 then (⟨0, bestA key F, F.get (key, bestA key F)⟩, F, S, D)
  else if (doA k (F.get (key, ver)) bal v).2 = 0 then
    (⟨(keepA F S D key ver (doA k (F.get (key, ver)) bal v).1).1, ver, (keepA F S D key ver (doA k (F.get (key, ver)) bal v).1).2.1.get (key, ver)⟩, (keepA F S D key ver (doA k (F.get (key, ver)) bal v).1).2)
  else (⟨(doA k (F.get (key, ver)) bal v).2, ver, F.get (key, ver)⟩, F, S, D)
def askA (F : Fs) (S : St) (D : Dk) (b : List UInt8) : List UInt8 × Fs × St × Dk :=
  match getAsk b with
  | none => (putAnsB 22 0 0 0 false [], F, S, D)
  | some (k, key, ver, bal, v) =>
    let r := answerA F S D k key ver bal v
    (putAnsB r.1.e r.1.ver r.1.f.pr r.1.f.ba r.1.f.le r.1.f.va, r.2)
end Go.Proofs.YtnbeagcmfcdklaaGreat
