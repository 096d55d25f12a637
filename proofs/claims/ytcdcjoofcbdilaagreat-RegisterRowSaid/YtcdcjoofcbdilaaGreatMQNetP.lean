import Derived.Test.YtcdcjoofcbdilaaGreatMSPut
import Derived.Test.YtcdcjoofcbdilaaGreatMDiskB
import Derived.Test.YtcdcjoofcbdilaaGreatRows
import Derived.Test.YtcdcjoofcbdilaaGreatBase
import Derived.ProofKit
import Derived.OpenShut
import Derived.Test.YtcdcjoofcbdilaaGreatMOpenB
/-! Package store, on: state, Tail. -/
namespace Go.Proofs.YtcdcjoofcbdilaaGreat
open Go.RowKit

section
variable {W : World} {q : StP} {S : St} {D : Dk}
theorem size_state : (Tryz.prog.info? 245).map (·.size) = some 3 := by kernel_rfl

set_option maxRecDepth 100000 in
set_option maxHeartbeats 1600000 in
theorem store_state (h : StAt W q S D) (lo : Int) :
    Calls Tryz.prog 143 #[.pointer (some ⟨q.s, 0, none⟩), .int .i64 lo] W fun e w' => e = .returned (stV (S.get lo)) ∧ Below W.heap.size W w' := by
  obtain ⟨tl, tr, sl, hget, k1, k2, k3, k4⟩ := S.get_form h lo
  have h1 := h.keep ((Below.refl _ W).alloc (Nat.le_refl _) (.cells #[.int .i64 0, .int .i64 0, .bool false] 245))
  have bX := Blk.new W #[.int .i64 0, .int .i64 0, .bool false] 245
  have b1 : Below W.heap.size W (W.alloc (.cells #[.int .i64 0, .int .i64 0, .bool false] 245)) := (Below.refl _ W).alloc (Nat.le_refl _) _
  have hno := store_none h1
  have hlk := store_lookup h1 lo
  rw [hget] at hlk
  simp only [stV] at hlk
  have c2 := h1.cell.cell (o := 2) rfl
  have Hget := hid hget
  clear hget h1
  obtain ⟨W1, hW1⟩ : ∃ W1, W.alloc (.cells #[.int .i64 0, .int .i64 0, .bool false] 245) = W1 := ⟨_, rfl⟩
  rw [hW1] at hno hlk c2 bX b1
  have x0 := bX.cell (o := 0) rfl
  have x1 := bX.cell (o := 1) rfl
  have x2 := bX.cell (o := 2) rfl
  have f0 := bX.free 0
  have f1 := bX.free 1
  have f2 := bX.free 2
  have bF := ((bX.set (o := 0) (.int .i64 tl)).set (o := 1) (.int .i64 tr)).set (o := 2) (.bool sl)
  simp only [List.setIfInBounds_toArray, List.set_cons_zero, List.set_cons_succ] at bF
  have bS : Below W.heap.size W (((W1.setCell ⟨W.heap.size, 0, none⟩ (.int .i64 tl)).setCell ⟨W.heap.size, 1, none⟩ (.int .i64 tr)).setCell ⟨W.heap.size, 2, none⟩ (.bool sl)) :=
    ((b1.setCell (p := ⟨W.heap.size, 0, none⟩) (by simp) _).setCell (p := ⟨W.heap.size, 1, none⟩) (by simp) _).setCell (p := ⟨W.heap.size, 2, none⟩) (by simp) _
  have HF := hid (And.intro bF bS)
  clear bF bS bX
  go_enter Tryz.func143, Tryz.ntmps143
  go_wp2_with fail
  refine hno.mono ?_
  rintro e W2 ⟨rfl, h2⟩
  subst h2
  go_wp2_with fail
  refine bodyPost_ret (results_cell_row rfl _ _ W.heap.size 245 _ (0, 0) _ rfl HF.out.1 Tryz.underlying245 rfl size_state) rfl ?_
  exact ⟨by rw [Hget.out]; rfl, HF.out.2⟩

set_option maxRecDepth 100000 in
set_option maxHeartbeats 1600000 in
theorem store_Tail (h : StAt W q S D) (lo : Int) :
    Calls Tryz.prog 92 #[.pointer (some ⟨q.s, 0, none⟩), .int .i64 lo] W fun e w' => e = .returned (.int .i64 (max (S.get lo).1 (S.get lo).2.1)) ∧ Below W.heap.size W w' := by
  go_enter Tryz.func92, Tryz.ntmps92
  go_wp2_with fail
  refine (store_state h lo).mono ?_
  rintro e W1 ⟨rfl, b1⟩
  obtain ⟨tl, tr, sl, hget, k1, k2, k3, k4⟩ := S.get_form h lo
  rw [hget]
  simp only [stV]
  have Hget := hid hget
  clear hget
  have bz : Below W.heap.size W (W1.alloc (.cells #[.int .i64 tl, .int .i64 tr, .bool sl] 245)) := b1.alloc b1.size _
  have HB := hid bz
  clear bz
  by_cases hm : tl < tr
  · have hd : decide (tl < tr) = true := decide_eq_true hm
    go_wp2_with fail
    all_goals go_ret
    all_goals (rw [Hget.out]; exact ⟨by simp only []; rw [show max tl tr = tr from by omega]; rfl, HB.out⟩)
  · have hd : decide (tl < tr) = false := decide_eq_false hm
    go_wp2_with fail
    all_goals go_ret
    all_goals (rw [Hget.out]; exact ⟨by simp only []; rw [show max tl tr = tl from by omega]; rfl, HB.out⟩)
end
end Go.Proofs.YtcdcjoofcbdilaaGreat

/-! Package store, on: Get. -/
namespace Go.Proofs.YtcdcjoofcbdilaaGreat
open Go.RowKit

section
variable {W : World} {q : StP} {S : St} {D : Dk}
/-- What a slot tells: the code, the data. -/
def getF (S : St) (lo po : Int) : Int × List UInt8 :=
  if po < (S.get lo).2.1 then (32, []) else match S.slots (lo, po) with | none => (3, []) | some l => (0, l)

set_option maxRecDepth 100000 in
set_option maxHeartbeats 1600000 in
theorem store_Get (h : StAt W q S D) (lo po : Int) (l0 : 0 ≤ lo) (l1 : lo < 281474976710656) (p0 : 0 ≤ po) (p1 : po ≤ 4095) :
    Calls Tryz.prog 93 #[.pointer (some ⟨q.s, 0, none⟩), .int .i64 lo, .int .i64 po] W fun e w' => ∃ v, e = .returned (.tuple #[v, .int .i64 (getF S lo po).1]) ∧ Own8 w' W.heap.size 5 v (getF S lo po).2 ∧ Below W.heap.size W w' := by
  have hmay := store_may h lo po 4095
  rw [if_pos ⟨l0, l1, p0, p1⟩] at hmay
  go_enter Tryz.func93, Tryz.ntmps93
  go_wp2_with fail
  refine hmay.mono ?_
  rintro e W1 ⟨rfl, b1⟩
  have h1 := h.keep b1
  clear hmay
  have c1 := h1.cell.cell (o := 1) rfl
  have c2 := h1.cell.cell (o := 2) rfl
  have hlk := store_lookup h1 lo
  obtain ⟨tl, tr, sl, hget, k1, k2, k3, k4⟩ := S.get_form h lo
  rw [hget] at hlk
  simp only [stV] at hlk
  have Hget := hid hget
  clear hget
  have hfld : (Instr.field 245 (.agg #[.int .i64 tl, .int .i64 tr, .bool sl]) 1).run Tryz.prog W1 = .ok (.int .i64 tr) W1 := by kernel_rfl
  obtain ⟨ov, hls, hbo, hou⟩ := store_slot_get h1 (lo, po)
  have hsl := h1.slots
  simp only [encS] at hls
  have Hb := hid b1
  have Hbo := hid hbo
  clear b1 hbo hou
  by_cases hp : po < tr
  · have HF := hid (show getF S lo po = (32, []) by unfold getF; rw [Hget.out, if_pos hp])
    clear hsl
    cases hs : S.slots (lo, po) with
    | none =>
      rw [hs] at hls
      simp only [Option.isSome_none] at hls
      clear hs
      go_wp2_with fail
      go_ret2
      rw [HF.out]
      exact ⟨_, rfl, Own8.nil _ _ _, Hb.out⟩
    | some l =>
      rw [hs] at hls
      simp only [Option.isSome_some] at hls
      clear hs
      go_wp2_with fail
      go_ret2
      rw [HF.out]
      exact ⟨_, rfl, Own8.nil _ _ _, Hb.out⟩
  · have hp2 : tr ≤ po := by omega
    cases hs : S.slots (lo, po) with
    | none =>
      have HF := hid (show getF S lo po = (3, []) by unfold getF; rw [Hget.out, if_neg hp, hs])
      clear hsl
      rw [hs] at hls
      simp only [Option.isSome_none] at hls
      clear hs
      go_wp2_with fail
      go_ret2
      rw [HF.out]
      exact ⟨_, rfl, Own8.nil _ _ _, Hb.out⟩
    | some l =>
      have HF := hid (show getF S lo po = (0, l) by unfold getF; rw [Hget.out, if_neg hp, hs])
      have hl : l.length ≤ 65536 := by
        obtain ⟨es, c, hm, hr, hv⟩ := hsl
        have := hr (lo, po)
        rw [hs] at this
        obtain ⟨e, he, hk⟩ := List.any_eq_true.1 this.symm
        simp only [decide_eq_true_eq] at hk
        obtain ⟨l', q1, _, q3⟩ := hv e he
        rw [← hk, hs] at q1
        cases q1
        exact q3
      have hbo : Bs W1 ov l := by have := Hbo.out; rw [hs] at this; exact this
      rw [hs] at hls
      simp only [Option.isSome_some] at hls
      have hcl := hid (slices_Clone ov l W1 hbo (by omega))
      clear hs hsl hbo Hbo
      go_wp2_with fail
      refine hcl.out.mono ?_
      rintro e w' ⟨v', rfl, _, ho, hb⟩
      have HO := hid (And.intro ho hb)
      clear ho hb
      go_wp2_with fail
      go_ret2
      rw [HF.out]
      exact ⟨_, rfl, HO.out.1.mono Hb.out.size, Hb.out.trans (HO.out.2.mono Hb.out.size)⟩

set_option maxRecDepth 100000 in
set_option maxHeartbeats 1600000 in
theorem store_Put_much (h : StAt W q S D) (lo po : Int) (a : Option Addr) (n c : Nat) (repair : Bool) (hn : 65536 < n) (hn2 : n ≤ 9223372036854775807) (l0 : 0 ≤ lo) (l1 : lo < 281474976710656) (p0 : 0 ≤ po) (p1 : po ≤ 4095) :
    Calls Tryz.prog 146 #[.pointer (some ⟨q.s, 0, none⟩), .int .i64 lo, .int .i64 po, .slice a n c, .bool repair] W fun e w' => e = .returned (.int .i64 6) ∧ Below W.heap.size W w' := by
  have hmay := store_may h lo po 4095
  rw [if_pos ⟨l0, l1, p0, p1⟩] at hmay
  go_enter Tryz.func146, Tryz.ntmps146
  go_wp2_with fail
  refine hmay.mono ?_
  rintro e W1 ⟨rfl, b1⟩
  have hd1 : decide ((n : Int) > 65536) = true := decide_eq_true (by omega)
  have hd2 : (65536 : Int) < (n : Int) := by omega
  clear hmay
  go_wp2_with fail
  go_ret
  exact ⟨rfl, b1⟩
end
end Go.Proofs.YtcdcjoofcbdilaaGreat

/-! What Get tells, as a number. -/
namespace Go.Proofs.YtcdcjoofcbdilaaGreat
open Go.RowKit

def tailF (S : St) (lo : Int) : Int := max (S.get lo).1 (S.get lo).2.1
theorem getF_code (S : St) (lo po : Int) : ((getF S lo po).1 = 32 ∧ po < (S.get lo).2.1) ∨ (getF S lo po).1 = 3 ∨ (getF S lo po).1 = 0 := by
  unfold getF
  by_cases h : po < (S.get lo).2.1
  · rw [if_pos h]; exact .inl ⟨rfl, h⟩
  · rw [if_neg h]
    cases S.slots (lo, po) with
    | none => exact .inr (.inl rfl)
    | some l => exact .inr (.inr rfl)
section
variable {W : World} {q : StP} {S : St} {D : Dk}
set_option maxRecDepth 100000 in
set_option maxHeartbeats 1600000 in
theorem store_Put_arg (h : StAt W q S D) (lo po : Int) (v : Value) (repair : Bool) (hp : 4095 < po) :
    Calls Tryz.prog 146 #[.pointer (some ⟨q.s, 0, none⟩), .int .i64 lo, .int .i64 po, v, .bool repair] W fun e w' => e = .returned (.int .i64 1) ∧ Below W.heap.size W w' := by
  have hmay := store_may h lo po 4095
  rw [if_neg (by omega)] at hmay
  go_enter Tryz.func146, Tryz.ntmps146
  go_wp2_with fail
  refine hmay.mono ?_
  rintro e W1 ⟨rfl, b1⟩
  clear hmay
  go_wp2_with fail
  go_ret
  exact ⟨rfl, b1⟩
end
end Go.Proofs.YtcdcjoofcbdilaaGreat

/-! Package acceptor, the plain words: asks and answers as bytes, facts, what becomes of them. -/
namespace Go.Proofs.YtcdcjoofcbdilaaGreat
open Go.RowKit

def askOk (k key ver bal : Int) (n : Nat) : Bool := decide (0 ≤ key ∧ key < 281474976710656 ∧ n ≤ 4000 ∧ ((k = 1 ∧ 1 ≤ ver ∧ ver < 281474976710656 ∧ 1 ≤ bal ∧ bal < 281474976710656 ∧ n = 0) ∨ (k = 2 ∧ 1 ≤ ver ∧ ver < 281474976710656 ∧ 1 ≤ bal ∧ bal < 281474976710656) ∨ (k = 3 ∧ 1 ≤ ver ∧ ver < 281474976710656 ∧ bal = 0) ∨ (k = 4 ∧ ver = 0 ∧ bal = 0 ∧ n = 0)))
def ansOk (e ver pr ba : Int) (n : Nat) : Bool := decide (0 ≤ e ∧ e ≤ 255 ∧ 0 ≤ ver ∧ ver < 281474976710656 ∧ 0 ≤ pr ∧ pr < 281474976710656 ∧ 0 ≤ ba ∧ ba < 281474976710656 ∧ n ≤ 4000)
def bit (b : Bool) : Int := if b then 1 else 0
def threeB (a b c : Int) : List UInt8 := lowB a 6 ++ (lowB b 6 ++ lowB c 6)
def askB (k key ver bal : Int) (l : List UInt8) : List UInt8 := lowB k 1 ++ (threeB key ver bal ++ l)
def ansB (e ver pr ba : Int) (le : Bool) (l : List UInt8) : List UInt8 := lowB e 1 ++ (threeB ver pr ba ++ (lowB (bit le) 1 ++ l))
def putAskB (k key ver bal : Int) (l : List UInt8) : List UInt8 := if askOk k key ver bal l.length then frameB 3 (askB k key ver bal l) else []
def putAnsB (e ver pr ba : Int) (le : Bool) (l : List UInt8) : List UInt8 := if ansOk e ver pr ba l.length then frameB 4 (ansB e ver pr ba le l) else []
theorem threeB_length (a b c : Int) : (threeB a b c).length = 18 := by simp [threeB, lowB_length]
theorem askB_length (k key ver bal : Int) (l : List UInt8) : (askB k key ver bal l).length = 19 + l.length := by simp [askB, threeB_length, lowB_length]; omega
theorem ansB_length (e ver pr ba : Int) (le : Bool) (l : List UInt8) : (ansB e ver pr ba le l).length = 20 + l.length := by simp [ansB, threeB_length, lowB_length]; omega
theorem putAskB_length (k key ver bal : Int) (l : List UInt8) : (putAskB k key ver bal l).length ≤ 4100 := by
  unfold putAskB
  split
  · rename_i h
    have := of_decide_eq_true h
    rw [frame_length, askB_length]
    omega
  · simp
theorem putAnsB_length (e ver pr ba : Int) (le : Bool) (l : List UInt8) : (putAnsB e ver pr ba le l).length ≤ 4100 := by
  unfold putAnsB
  split
  · rename_i h
    have := of_decide_eq_true h
    rw [frame_length, ansB_length]
    omega
  · simp

def getAsk (l : List UInt8) : Option (Nat × Nat × Nat × Nat × List UInt8) :=
  match bodyF l 3 19 with
  | none => none
  | some x => if askOk (numOf (x.take 1)) (numOf ((x.drop 1).take 6)) (numOf ((x.drop 7).take 6)) (numOf ((x.drop 13).take 6)) (x.drop 19).length then some (numOf (x.take 1), numOf ((x.drop 1).take 6), numOf ((x.drop 7).take 6), numOf ((x.drop 13).take 6), x.drop 19) else none
def getAns (l : List UInt8) : Option (Nat × Nat × Nat × Nat × Bool × List UInt8) :=
  match bodyF l 4 20 with
  | none => none
  | some x => if numOf ((x.drop 19).take 1) ≤ 1 ∧ ansOk (numOf (x.take 1)) (numOf ((x.drop 1).take 6)) (numOf ((x.drop 7).take 6)) (numOf ((x.drop 13).take 6)) (x.drop 20).length = true then some (numOf (x.take 1), numOf ((x.drop 1).take 6), numOf ((x.drop 7).take 6), numOf ((x.drop 13).take 6), decide (numOf ((x.drop 19).take 1) = 1), x.drop 20) else none

theorem three_parts (h : UInt8) (a b c : Int) (l : List UInt8) : ((h :: (threeB a b c ++ l)).drop 1).take 6 = lowB a 6 ∧ ((h :: (threeB a b c ++ l)).drop 7).take 6 = lowB b 6 ∧ ((h :: (threeB a b c ++ l)).drop 13).take 6 = lowB c 6 ∧ (h :: (threeB a b c ++ l)).drop 19 = l := by
  refine ⟨rfl, rfl, rfl, rfl⟩
theorem getAsk_put (k key ver bal : Nat) (l : List UInt8) (h : askOk k key ver bal l.length = true) : getAsk (frameB 3 (askB k key ver bal l)) = some (k, key, ver, bal, l) := by
  have h0 := of_decide_eq_true h
  have hb : bodyF (frameB 3 (askB k key ver bal l)) 3 19 = some (askB k key ver bal l) := bodyF_frame 3 19 _ (by omega) (by rw [askB_length]; omega) (by rw [askB_length]; omega)
  unfold getAsk
  rw [hb]
  obtain ⟨e1, e2, e3, e4⟩ := three_parts (byteOf (k : Int) 0) key ver bal l
  have e0 : askB k key ver bal l = byteOf (k : Int) 0 :: (threeB key ver bal ++ l) := rfl
  have e5 : (askB k key ver bal l).take 1 = lowB (k : Int) 1 := rfl
  rw [← e0] at e1 e2 e3 e4
  simp only [e1, e2, e3, e4, e5]
  rw [numOf_low' (by omega), numOf_low' (by omega), numOf_low' (by omega), numOf_low' (by omega)]
  rw [if_pos h]
theorem getAns_put (e ver pr ba : Nat) (le : Bool) (l : List UInt8) (h : ansOk e ver pr ba l.length = true) : getAns (frameB 4 (ansB e ver pr ba le l)) = some (e, ver, pr, ba, le, l) := by
  have h0 := of_decide_eq_true h
  have hb : bodyF (frameB 4 (ansB e ver pr ba le l)) 4 20 = some (ansB e ver pr ba le l) := bodyF_frame 4 20 _ (by omega) (by rw [ansB_length]; omega) (by rw [ansB_length]; omega)
  unfold getAns
  rw [hb]
  obtain ⟨e1, e2, e3, e4⟩ := three_parts (byteOf (e : Int) 0) ver pr ba (lowB (bit le) 1 ++ l)
  have e0 : ansB e ver pr ba le l = byteOf (e : Int) 0 :: (threeB ver pr ba ++ (lowB (bit le) 1 ++ l)) := rfl
  have e5 : (ansB e ver pr ba le l).take 1 = lowB (e : Int) 1 := rfl
  rw [← e0] at e1 e2 e3 e4
  have e6 : (ansB e ver pr ba le l).drop 20 = l := rfl
  have e7 : ((ansB e ver pr ba le l).drop 19).take 1 = lowB (((if le then 1 else 0 : Nat) : Nat) : Int) 1 := by rw [e4]; cases le <;> rfl
  simp only [e1, e2, e3, e5, e6, e7]
  rw [numOf_low' (n := e) (by omega), numOf_low' (n := ver) (by omega), numOf_low' (n := pr) (by omega), numOf_low' (n := ba) (by omega), numOf_low' (n := if le then 1 else 0) (by cases le <;> simp)]
  rw [if_pos ⟨by cases le <;> simp, h⟩]
  cases le <;> rfl

/-! ### Facts -/
structure Fa where
  pr : Int
  ba : Int
  le : Bool
  va : List UInt8
deriving DecidableEq
def Fa.zero : Fa := ⟨0, 0, false, []⟩
abbrev Fs := List ((Int × Int) × Fa)
def Fs.get (F : Fs) (x : Int × Int) : Fa := ((F.find? (fun e => decide (x = e.1))).map (·.2)).getD Fa.zero
def Fs.set (F : Fs) (x : Int × Int) (f : Fa) : Fs := if F.any (fun e => decide (x = e.1)) then F.map (fun e => if x = e.1 then (e.1, f) else e) else F ++ [(x, f)]
/-- What becomes of a fact: prepare, accept, learn. -/
def doA (k : Int) (f : Fa) (bal : Int) (v : List UInt8) : Fa × Int :=
  if k = 1 then (if bal ≤ f.pr then (f, 34) else (⟨bal, f.ba, f.le, f.va⟩, 0))
  else if k = 2 then (if bal < f.pr ∨ (f.le = true ∧ f.va ≠ v) then (f, 34) else if f.le then (f, 0) else (⟨bal, bal, false, v⟩, 0))
  else (if f.le then (f, 0) else (⟨f.pr, max 1 f.ba, true, v⟩, 0))
def factB (ver : Int) (f : Fa) : List UInt8 := threeB ver f.pr f.ba ++ (lowB (bit f.le) 1 ++ f.va)
/-- A fact is kept, if it is another one: the error, what lies behind it. -/
def keepA (F : Fs) (S : St) (D : Dk) (key ver : Int) (f : Fa) : Int × Fs × St × Dk :=
  if F.get (key, ver) = f then (0, F, S, D)
  else if tailF S key ≤ 4095 then
    (if (putF S D key (tailF S key) (factB ver f) false).1 = 0 then (0, F.set (key, ver) f, (putF S D key (tailF S key) (factB ver f) false).2)
     else ((putF S D key (tailF S key) (factB ver f) false).1, F, (putF S D key (tailF S key) (factB ver f) false).2))
  else (7, F, S, D)
/-- The greatest version with something, as far as the facts of a list go. -/
def bestA (key : Int) (F : Fs) : Int := F.foldl (fun b e => if e.1.1 = key ∧ 0 < e.2.ba ∧ b < e.1.2 then e.1.2 else b) 0
structure Ans where
  e : Int
  ver : Int
  f : Fa
/-- What an ask that may be is answered; what lies behind it. -/
def answerA (F : Fs) (S : St) (D : Dk) (k key ver bal : Int) (v : List UInt8) : Ans × Fs × St × Dk :=
  if k = 4 then (⟨0, bestA key F, F.get (key, bestA key F)⟩, F, S, D)
  else if (doA k (F.get (key, ver)) bal v).2 = 0 then
    (⟨(keepA F S D key ver (doA k (F.get (key, ver)) bal v).1).1, ver, (keepA F S D key ver (doA k (F.get (key, ver)) bal v).1).2.1.get (key, ver)⟩, (keepA F S D key ver (doA k (F.get (key, ver)) bal v).1).2)
  else (⟨(doA k (F.get (key, ver)) bal v).2, ver, F.get (key, ver)⟩, F, S, D)
def askA (F : Fs) (S : St) (D : Dk) (b : List UInt8) : List UInt8 × Fs × St × Dk :=
  match getAsk b with
  | none => (putAnsB 22 0 0 0 false [], F, S, D)
  | some (k, key, ver, bal, v) =>
    let r := answerA F S D k key ver bal v
    (putAnsB r.1.e r.1.ver r.1.f.pr r.1.f.ba r.1.f.le r.1.f.va, r.2)
end Go.Proofs.YtcdcjoofcbdilaaGreat

/-! From a law's contract (it returns true; nothing that was there has turned) to the row. -/
namespace Go.Proofs.YtcdcjoofcbdilaaGreat
open Go.ChangeShapes Go.WideShapes Go.ChangeAt Go.RowKit

theorem law_own : ownKnob Tryz.prog.godebug = none := by kernel_rfl
theorem law_laid : laidOutB Tryz.prog = true := by kernel_rfl
theorem cells_int : Tryz.prog.cellsOf 3 = 1 := by kernel_rfl

theorem all_stay {H : Type} {enc : TypeId × Value → H} {W W' : World} (hb : Below W.heap.size W W') : ∀ (ts : List TypeId) (vs : List Value) (ds : List (DataW H)) (ps : List MemPlace),
    (∀ t ∈ ts, Tryz.prog.readableRec t = true ∧ t < Tryz.prog.types.size) → DataW.TrodAll enc Tryz.prog W 0 (fun _ => true) true ts vs ds ps → (∀ x ∈ ps, x.block < W.heap.size) →
    DataW.TrodAll enc Tryz.prog W' 0 (fun b => decide (b < W.heap.size)) true ts vs ds ps
  | [], vs, ds, ps, _, h, _ => by
    obtain ⟨rfl, rfl, rfl⟩ := trodAll_nil h
    exact trodAll_mk0
  | t :: ts, vs, ds, ps, hr, h, hlt => by
    obtain ⟨v, vs', d, ds', p, q, rfl, rfl, rfl, h1, h2⟩ := trodAll_cons h
    have ht := hr t List.mem_cons_self
    refine trodAll_cons_mk (Below.trod law_laid ht.1 ht.2 h1 hb (fun x hx => hlt x (List.mem_append_left _ hx))) ?_
    exact all_stay hb ts vs' ds' q (fun t' h' => hr t' (List.mem_cons_of_mem _ h')) h2 (fun x hx => hlt x (List.mem_append_right _ hx))

theorem law_post {H : Type} {enc : TypeId × Value → H} {s : ChangeSpec} {f : Func} {W W' : World} {args : Array Value} {ds gs : List (DataW H)} {before : List MemPlace} (hv : s.vars = []) (hrt : f.resultTypes = #[4])
    (hr : ∀ t ∈ f.params.toList, Tryz.prog.readableRec t = true ∧ t < Tryz.prog.types.size) (hW : DataW.Whole enc Tryz.prog f.params.toList s.vars false W args.toList ds gs before)
    (hfn : s.fn H (ds ++ gs) = { results := [.lit (.bool true)], args := ds }) (hb : Below W.heap.size W W') : s.post enc Tryz.prog f false true false false W args (.bool true) W' := by
  have hW' := hW
  obtain ⟨p, q, hA, hV, rfl, _, _⟩ := hW
  rw [hv] at hV
  obtain ⟨rfl, rfl⟩ := trodVars_none hV
  refine ⟨ds, [], p ++ [], [], p, [], hW', ?_, ?_, ?_, hb.frame _, fun h => by cases h⟩
  · rw [hfn, hrt]
    exact trodAll_mk1 (shut_bool Tryz.underlying4 _)
  · rw [hfn]
    exact all_stay hb _ _ _ _ hr hA (fun x hx => hW'.lt x (List.mem_append_left _ hx))
  · rw [hfn, hv]
    rfl

set_option maxRecDepth 100000 in
theorem wf_i64_bounds {n : Int} (h : (Lit.int .i64 n).wf = true) : -9223372036854775808 ≤ n ∧ n ≤ 9223372036854775807 := by
  have e1 : IntKind.i64.min = -9223372036854775808 := rfl
  have e2 : IntKind.i64.max = 9223372036854775807 := rfl
  simpa [Lit.wf, e1, e2] using h

/-- Ints that can be read from a slice on. -/
def Is (w : World) (v : Value) (l : List Int) : Prop := ∃ a c, v = .slice a l.length c ∧ ∀ i x, l[i]? = some x → ∃ g o, a = some ⟨g, o, none⟩ ∧ w.cell? ⟨g, o + i, none⟩ = some (.int .i64 x)
theorem Is.keep {w w' : World} {v : Value} {l : List Int} (h : Is w v l) (hb : Below w.heap.size w w') : Is w' v l := by
  obtain ⟨a, c, rfl, hr⟩ := h
  refine ⟨a, c, rfl, fun i x hi => ?_⟩
  obtain ⟨g, o, e, hc⟩ := hr i x hi
  exact ⟨g, o, e, by rw [hb.cell (World.block_lt_of_cell? w _ hc)]; exact hc⟩

theorem add_spot {w : World} {a : Addr} {v : Value} (h : w.cell? (a.add 0) = some v) : a.spot = none := by
  simpa [Addr.add] using World.cell?_spot h

set_option maxRecDepth 100000 in
theorem open_Is {H : Type} {enc : TypeId × Value → H} {W : World} {v : Value} {d : DataW H} {p : List MemPlace} {t : TypeId} (ht : Tryz.prog.underlying t = some (.slice 3)) (hval : Value.okWide Tryz.prog W .any 0 t v)
    (h : DataW.Trod enc Tryz.prog W 0 (fun _ => true) true t v d p) : ∃ l, Is W v l ∧ l.length ≤ 9223372036854775807 ∧ ∀ x ∈ l, -9223372036854775808 ≤ x ∧ x ≤ 9223372036854775807 := by
  obtain ⟨a0, len, cap, rfl⟩ := okWide_slice ht hval
  obtain ⟨fuel, hf⟩ := h
  rcases open_ints ht Tryz.underlying3 cells_int hf with ⟨hcs, hx⟩ | ⟨a, len', cap', zs, hcs, _, hl, hm, hz, hx, hcell, hwz⟩
  · simp [Value.cells] at hcs
    obtain ⟨rfl, rfl, rfl⟩ := hcs
    exact ⟨[], ⟨none, 0, rfl, fun i x h => by simp at h⟩, by simp, fun x h => by simp at h⟩
  · simp [Value.cells] at hcs
    obtain ⟨rfl, rfl, rfl⟩ := hcs
    simp only [if_true] at hz
    have hlen : (zs.take len).length = len := by simp; omega
    refine ⟨zs.take len, ⟨some a, cap, by rw [hlen], fun i x hi => ?_⟩, ?_, fun x hx => wf_i64_bounds (hwz x (List.mem_of_mem_take hx))⟩
    · rw [List.getElem?_take] at hi
      split at hi
      · have hlt : i < zs.length := by omega
        have hc := hcell i hlt
        have ha := add_spot (hcell 0 (by omega))
        obtain ⟨b, o, s⟩ := a
        simp only at ha
        subst ha
        rw [add_plain] at hc
        refine ⟨b, o, rfl, ?_⟩
        rw [hc, List.getD_eq_getElem?_getD, hi]
        rfl
      · cases hi
    · unfold maxLen at hm
      omega
end Go.Proofs.YtcdcjoofcbdilaaGreat

/-! Package net, the plain words: luck that waits, messages that are late. -/
namespace Go.Proofs.YtcdcjoofcbdilaaGreat
open Go.RowKit

def mod5 (x : Int) : Int := (x.tmod 5 + 5).tmod 5
theorem mod5_bound (x : Int) : 0 ≤ mod5 x ∧ mod5 x < 5 := by
  unfold mod5
  have h1 := Int.lt_tmod_of_pos x (show (0 : Int) < 5 by omega)
  have h2 := Int.tmod_lt_of_pos x (show (0 : Int) < 5 by omega)
  have h3 : 0 ≤ x.tmod 5 + 5 := by omega
  exact ⟨Int.tmod_nonneg 5 h3, Int.tmod_lt_of_pos _ (by omega)⟩
def timesF (c : Int) : Nat := if c = 0 then 1 else if c = 2 then 1 else if c = 4 then 2 else 0
def replyF (c : Int) : Bool := decide (c = 0 ∨ c = 4)

/-- The first of what waits; 0 where nothing does. -/
def firstI (l : List Int) : Int := match l with
  | [] => 0
  | x :: _ => x
/-- What a net holds. -/
structure NetS where
  luck : List Int
  late : List (Int × List UInt8)
def NetS.fate (s : NetS) : Int := mod5 (firstI s.luck)
theorem NetS.fate_bound (s : NetS) : 0 ≤ s.fate ∧ s.fate < 5 := mod5_bound _
/-- A message is sent. -/
def NetS.send (s : NetS) (to : Int) (b : List UInt8) : NetS := ⟨s.luck.tail, if s.fate = 3 then s.late ++ [(to, b)] else s.late⟩
def NetS.lucky (s : NetS) (l : List Int) : NetS := ⟨s.luck ++ l, s.late⟩
theorem NetS.send_late (s : NetS) (to : Int) (b : List UInt8) : (s.send to b).late.length ≤ s.late.length + 1 := by
  unfold NetS.send
  simp only
  split
  · simp
  · omega

abbrev iv (z : Int) : Value := .int .i64 z
/-- A row of ints that starts at its block's head. -/
abbrev OwnI (w : World) (base : Nat) (t : TypeId) (v : Value) (l : List Int) : Prop := w.ownsRow base t 1 v l.length (l.map iv)
theorem OwnI.ext {fp : Nat → Prop} {w w' : World} {base : Nat} {t : TypeId} {v : Value} {l : List Int} (h : OwnI w base t v l) (he : Ext fp w w') (hn : ∀ k, v.ownBlock = some k → ¬ fp k) : OwnI w' base t v l := by
  refine ⟨h.1, h.2.imp id ?_⟩
  rintro ⟨g, cap, cur, e, h1, h2, r⟩
  refine ⟨g, cap, cur, e, h1, (he.block g (Array.getElem?_eq_some_iff.1 h2).1 (hn g (by rw [e]; rfl))).trans h2, r⟩
theorem OwnI.lt {w : World} {base : Nat} {t : TypeId} {v : Value} {l : List Int} (h : OwnI w base t v l) : ∀ k, v.ownBlock = some k → k < w.heap.size := fun k hk => (World.ownsRow.lt h k hk).2

theorem grows_below {W W' : World} (h : Grows W.drew W') : Below W.heap.size W W' := ⟨h.os, h.tape, h.output, h.size, h.block⟩
theorem grows_of_below {W W' : World} (h : Below W.heap.size W W') : Grows W W' := ⟨h.os, h.tape, h.output, h.size, h.block⟩
end Go.Proofs.YtcdcjoofcbdilaaGreat
