import Derived.Test.YtbahjinlcbjikaaGreatMQTwP
/-! gazettelaw07.LogletTwice: the plain law of the link. -/
namespace Go.Proofs.YtbahjinlcbjikaaGreat
open Go.RowKit

/-- A late message is delivered. -/
def askB (d : Nds) (b : List UInt8) : Nds := match d with
  | none => none
  | some (S, D) => some (askF S D b).2
def deliverM (s : LkS) (k : Nat) (m : Int × List UInt8) : LkS :=
  ⟨⟨s.net.luck, s.net.late.eraseIdx k⟩, if 0 ≤ m.1 ∧ m.1 < s.nds.length then s.nds.set m.1.toNat (askB (s.nds.getD m.1.toNat none) m.2) else s.nds⟩
def doubleM (s : LkS) (m : Int × List UInt8) : LkS := ⟨⟨s.net.luck, s.net.late ++ [m]⟩, s.nds⟩
theorem askL_at (n : NetS) (ds : List Nds) (i : Nat) (d : Nds) (k lo po : Int) (l : List UInt8) (hr : rightB k lo po l.length = true) (hi : ds[i]? = some d) {c : Int} (hc : n.fate = c) :
    askL ⟨n, ds⟩ (i : Int) k lo po l = (if replyF c then (askN k lo po l (timesF c) d).1 else none, ⟨n.send (i : Int) (frameB 1 (reqB k lo po l)), ds.set i (askN k lo po l (timesF c) d).2⟩) := by
  obtain ⟨hlt, rfl⟩ := List.getElem?_eq_some_iff.1 hi
  subst hc
  have hg : ds.getD ((i : Int).toNat) none = ds[i] := by simp [hlt]
  unfold askL
  rw [if_pos ⟨hr, by omega, by show (i : Int) < (ds.length : Int); omega⟩]
  show ((if replyF n.fate = true then (askN k lo po l (timesF n.fate) (ds.getD ((i : Int).toNat) none)).1 else none), (⟨n.send (i : Int) (frameB 1 (reqB k lo po l)), ds.set ((i : Int).toNat) (askN k lo po l (timesF n.fate) (ds.getD ((i : Int).toNat) none)).2⟩ : LkS)) = _
  rw [hg]
  rfl
def Three (X0 X1 X2 : St × Dk) (n : NetS) : LkS := ⟨n, [some X0, some X1, some X2]⟩
def lateB (i : Nat) : Int × List UInt8 := (2, frameB 1 (reqB 1 1 (i : Int) (dataB i)))
/-- All three are asked, at once. -/
theorem replies_three {X0 X1 X2 Y0 Y1 Y2 : St × Dk} {r0 r1 r2 : LRp} (late : List (Int × List UInt8)) (k lo po : Int) (l : List UInt8) (hr : rightB k lo po l.length = true) (h0 : askD (some X0) k lo po l = (some r0, some Y0)) (h1 : askD (some X1) k lo po l = (some r1, some Y1)) (h2 : askD (some X2) k lo po l = (some r2, some Y2)) :
    repliesL (Three X0 X1 X2 ⟨[], late⟩) k lo po l [0, 1, 2] = ([r0, r1, r2], Three Y0 Y1 Y2 ⟨[], late⟩) := by
  have hf : NetS.fate ⟨[], late⟩ = 0 := by show mod5 0 = 0; decide
  have hs : ∀ (i : Int) (b : List UInt8), NetS.send ⟨[], late⟩ i b = ⟨[], late⟩ := fun i b => by unfold NetS.send; rw [hf, if_neg (by decide)]; rfl
  have a0 : askL ⟨⟨[], late⟩, [some X0, some X1, some X2]⟩ (0 : Int) k lo po l = (some r0, ⟨⟨[], late⟩, [some Y0, some X1, some X2]⟩) := by
    have := askL_at ⟨[], late⟩ [some X0, some X1, some X2] 0 (some X0) k lo po l hr rfl hf
    rw [hs] at this
    refine this.trans ?_
    show ((askD (some X0) k lo po l).1, _) = _
    rw [h0]
    show (_, (⟨_, [(askD (some X0) k lo po l).2, some X1, some X2]⟩ : LkS)) = _
    rw [h0]
  have a1 : askL ⟨⟨[], late⟩, [some Y0, some X1, some X2]⟩ (1 : Int) k lo po l = (some r1, ⟨⟨[], late⟩, [some Y0, some Y1, some X2]⟩) := by
    have := askL_at ⟨[], late⟩ [some Y0, some X1, some X2] 1 (some X1) k lo po l hr rfl hf
    rw [hs] at this
    refine this.trans ?_
    show ((askD (some X1) k lo po l).1, (⟨_, [some Y0, (askD (some X1) k lo po l).2, some X2]⟩ : LkS)) = _
    rw [h1]
  have a2 : askL ⟨⟨[], late⟩, [some Y0, some Y1, some X2]⟩ (2 : Int) k lo po l = (some r2, ⟨⟨[], late⟩, [some Y0, some Y1, some Y2]⟩) := by
    have := askL_at ⟨[], late⟩ [some Y0, some Y1, some X2] 2 (some X2) k lo po l hr rfl hf
    rw [hs] at this
    refine this.trans ?_
    show ((askD (some X2) k lo po l).1, (⟨_, [some Y0, some Y1, (askD (some X2) k lo po l).2]⟩ : LkS)) = _
    rw [h2]
  unfold Three
  simp only [repliesL, a0, a1, a2]
  rfl
/-- What holds of the link between the calls. -/
structure Tw (s : LkS) (n : Nat) (sl : Bool) : Prop where
  ex : ∃ X0 X1 X2 f t, s = Three X0 X1 X2 ⟨[], s.net.late⟩ ∧ Nod X0 (fun i => decide (i < n)) n sl ∧ Nod X1 (fun i => decide (i < n)) n sl ∧ Nod X2 f t sl ∧ t ≤ n
  late : ∀ m ∈ s.net.late, ∃ j, j < n ∧ m = lateB j
  few : n ≤ 20
theorem addF_lt (n : Nat) : addF (fun i => decide (i < n)) n = fun i => decide (i < n + 1) := by
  funext j
  unfold addF
  by_cases h : j < n + 1
  · by_cases h2 : j = n
    · simp [h2]
    · have h3 : j < n := by omega
      simp [h, h2, h3]
  · have h2 : ¬ j = n := by omega
    have h3 : ¬ j < n := by omega
    simp [h, h2, h3]
theorem right_write (i : Nat) (hi : i < 20) : rightB 1 1 (i : Int) (dataB i).length = true := decide_eq_true ⟨by omega, by omega, by omega, by omega, by omega, by omega, by simp [dataB], .inl rfl⟩
theorem right_read (i : Nat) (hi : i < 20) : rightB 4 1 (i : Int) ([] : List UInt8).length = true := decide_eq_true ⟨by omega, by omega, by omega, by omega, by omega, by omega, by simp, .inr (.inr ⟨rfl, fun h => by omega⟩)⟩
theorem right_seal3 : rightB 3 1 0 ([] : List UInt8).length = true := by decide
theorem may_three {X0 X1 X2 : St × Dk} {n : NetS} {pos most : Int} (h : 0 ≤ pos ∧ pos ≤ most) : mayB (Three X0 X1 X2 n) ⟨1, [0, 1, 2]⟩ pos most = true := by
  unfold mayB
  have hc : checkB ⟨1, [0, 1, 2]⟩ ((Three X0 X1 X2 n).nds.length : Int) = true := by
    show checkB ⟨1, [0, 1, 2]⟩ 3 = true
    decide
  rw [hc]
  exact decide_eq_true h
theorem tw_append {s : LkS} {n : Nat} (h : Tw s n false) (hn : n < 20) : ∃ s', appendL (luckL s [0, 4, 3]) ⟨1, [0, 1, 2]⟩ (n : Int) (dataB n) = (0, s') ∧ Tw s' (n + 1) false ∧ s'.net.late.length = s.net.late.length + 1 := by
  obtain ⟨⟨X0, X1, X2, f, t, hs, h0, h1, h2, ht⟩, hl, hfew⟩ := h
  obtain ⟨lt, hlt⟩ : ∃ lt, s.net.late = lt := ⟨_, rfl⟩
  rw [hlt] at hs hl ⊢
  clear hlt
  subst hs
  have hr := right_write n hn
  obtain ⟨Y0, t0, e0, n0, a0, _⟩ := nod_write h0 n hn
  obtain ⟨Y1, t1, e1, n1, a1, _⟩ := nod_write h1 n hn
  obtain ⟨Z1, u1, e2, n2, _, a2⟩ := nod_write n1 n hn
  have hfn : (fun i => decide (i < n)) n = false := by simp
  have ht0 : t0 = n + 1 := by rw [a0 hfn]; omega
  have ht1 : t1 = n + 1 := by rw [a1 hfn]; omega
  have hu1 : u1 = n + 1 := by rw [a2 (by simp [addF]), ht1]
  subst ht0 ht1 hu1
  rw [addF_same (by simp [addF])] at n2
  rw [addF_lt] at n0 n2
  have k0 : askL ⟨⟨[0, 4, 3], lt⟩, [some X0, some X1, some X2]⟩ (0 : Int) 1 1 (n : Int) (dataB n) = (some ⟨0, ((n + 1 : Nat) : Int), false, []⟩, ⟨⟨[4, 3], lt⟩, [some Y0, some X1, some X2]⟩) := by
    have hf : NetS.fate ⟨[0, 4, 3], lt⟩ = 0 := by show mod5 0 = 0; decide
    have hsd : NetS.send ⟨[0, 4, 3], lt⟩ ((0 : Nat) : Int) (frameB 1 (reqB 1 1 (n : Int) (dataB n))) = ⟨[4, 3], lt⟩ := by unfold NetS.send; rw [hf, if_neg (by decide)]; rfl
    have := askL_at ⟨[0, 4, 3], lt⟩ [some X0, some X1, some X2] 0 (some X0) 1 1 (n : Int) (dataB n) hr rfl hf
    rw [hsd] at this
    refine this.trans ?_
    show ((askD (some X0) 1 1 (n : Int) (dataB n)).1, (⟨_, [(askD (some X0) 1 1 (n : Int) (dataB n)).2, some X1, some X2]⟩ : LkS)) = _
    rw [e0]
  have k1 : askL ⟨⟨[4, 3], lt⟩, [some Y0, some X1, some X2]⟩ (1 : Int) 1 1 (n : Int) (dataB n) = (some ⟨0, ((n + 1 : Nat) : Int), false, []⟩, ⟨⟨[3], lt⟩, [some Y0, some Z1, some X2]⟩) := by
    have hf : NetS.fate ⟨[4, 3], lt⟩ = 4 := by show mod5 4 = 4; decide
    have hsd : NetS.send ⟨[4, 3], lt⟩ ((1 : Nat) : Int) (frameB 1 (reqB 1 1 (n : Int) (dataB n))) = ⟨[3], lt⟩ := by unfold NetS.send; rw [hf, if_neg (by decide)]; rfl
    have := askL_at ⟨[4, 3], lt⟩ [some Y0, some X1, some X2] 1 (some X1) 1 1 (n : Int) (dataB n) hr rfl hf
    rw [hsd] at this
    refine this.trans ?_
    show ((askD (askD (some X1) 1 1 (n : Int) (dataB n)).2 1 1 (n : Int) (dataB n)).1, (⟨_, [some Y0, (askD (askD (some X1) 1 1 (n : Int) (dataB n)).2 1 1 (n : Int) (dataB n)).2, some X2]⟩ : LkS)) = _
    rw [e1]
    show ((askD (some Y1) 1 1 (n : Int) (dataB n)).1, (⟨_, [some Y0, (askD (some Y1) 1 1 (n : Int) (dataB n)).2, some X2]⟩ : LkS)) = _
    rw [e2]
  have k2 : askL ⟨⟨[3], lt⟩, [some Y0, some Z1, some X2]⟩ (2 : Int) 1 1 (n : Int) (dataB n) = (none, ⟨⟨[], lt ++ [lateB n]⟩, [some Y0, some Z1, some X2]⟩) := by
    have hf : NetS.fate ⟨[3], lt⟩ = 3 := by show mod5 3 = 3; decide
    have hsd : NetS.send ⟨[3], lt⟩ ((2 : Nat) : Int) (frameB 1 (reqB 1 1 (n : Int) (dataB n))) = ⟨[], lt ++ [lateB n]⟩ := by unfold NetS.send; rw [hf, if_pos rfl]; rfl
    have := askL_at ⟨[3], lt⟩ [some Y0, some Z1, some X2] 2 (some X2) 1 1 (n : Int) (dataB n) hr rfl hf
    rw [hsd] at this
    exact this
  have hrep : repliesL (luckL (Three X0 X1 X2 ⟨[], lt⟩) [0, 4, 3]) 1 1 (n : Int) (dataB n) [0, 1, 2] = ([⟨0, ((n + 1 : Nat) : Int), false, []⟩, ⟨0, ((n + 1 : Nat) : Int), false, []⟩], Three Y0 Z1 X2 ⟨[], lt ++ [lateB n]⟩) := by
    show repliesL ⟨⟨[0, 4, 3], lt⟩, [some X0, some X1, some X2]⟩ 1 1 (n : Int) (dataB n) [0, 1, 2] = _
    simp only [repliesL, k0, k1, k2]
    rfl
  refine ⟨Three Y0 Z1 X2 ⟨[], lt ++ [lateB n]⟩, ?_, ⟨⟨Y0, Z1, X2, f, t, rfl, n0, n2, h2, by omega⟩, fun m hm => ?_, by omega⟩, ?_⟩
  · unfold appendL
    have hm : mayB (luckL (Three X0 X1 X2 ⟨[], lt⟩) [0, 4, 3]) ⟨1, [0, 1, 2]⟩ (n : Int) 4095 = true := may_three (n := ⟨[0, 4, 3], lt⟩) (by omega)
    rw [if_pos hm, if_neg (by rw [dataB_len]; omega)]
    show (if (⟨1, [0, 1, 2]⟩ : Cfg).quorum ≤ cntE 0 (repliesL (luckL (Three X0 X1 X2 ⟨[], lt⟩) [0, 4, 3]) 1 1 (n : Int) (dataB n) [0, 1, 2]).1 then (0 : Int) else firstE [30, 31, 32, 7] (repliesL (luckL (Three X0 X1 X2 ⟨[], lt⟩) [0, 4, 3]) 1 1 (n : Int) (dataB n) [0, 1, 2]).1, (repliesL (luckL (Three X0 X1 X2 ⟨[], lt⟩) [0, 4, 3]) 1 1 (n : Int) (dataB n) [0, 1, 2]).2) = _
    rw [hrep]
    rfl
  · have hm2 : m ∈ lt ++ [lateB n] := hm
    rcases List.mem_append.1 hm2 with h9 | h9
    · obtain ⟨j, hj, e⟩ := hl m h9
      exact ⟨j, by omega, e⟩
    · exact ⟨n, by omega, by simpa using h9⟩
  · show (lt ++ [lateB n]).length = lt.length + 1
    simp
theorem tw_deliver {s : LkS} {n k : Nat} {m : Int × List UInt8} (h : Tw s n false) (hk : s.net.late[k]? = some m) : Tw (deliverM s k m) n false := by
  obtain ⟨⟨X0, X1, X2, f, t, hs, h0, h1, h2, ht⟩, hl, hfew⟩ := h
  obtain ⟨j, hj, rfl⟩ := hl m (List.mem_of_getElem? hk)
  obtain ⟨lt, hlt⟩ : ∃ lt, s.net.late = lt := ⟨_, rfl⟩
  rw [hlt] at hs hl hk
  clear hlt
  subst hs
  have hr := right_write j (by omega)
  obtain ⟨Y2, t2, e2, n2, a2, b2⟩ := nod_write h2 j (by omega)
  obtain ⟨S2, D2⟩ := X2
  have hask : (askF S2 D2 (frameB 1 (reqB 1 1 (j : Int) (dataB j)))).2 = Y2 := by
    obtain ⟨g1, g2⟩ := askF_askD S2 D2 1 1 j (dataB j) (by exact hr)
    have g3 : (askD (some (S2, D2)) 1 1 (j : Int) (dataB j)).2 = some Y2 := by rw [e2]
    have g4 : some (doF S2 D2 1 1 (j : Int) (dataB j)).2.2 = some Y2 := g2.symm.trans g3
    injection g4 with g4
    have g5 := congrArg Prod.snd g1
    exact g5.trans g4
  have hd : deliverM (Three X0 X1 (S2, D2) ⟨[], lt⟩) k (lateB j) = Three X0 X1 Y2 ⟨[], lt.eraseIdx k⟩ := by
    show (⟨⟨[], lt.eraseIdx k⟩, [some X0, some X1, some (askF S2 D2 (frameB 1 (reqB 1 1 (j : Int) (dataB j)))).2]⟩ : LkS) = _
    rw [hask]
    rfl
  rw [hd]
  refine ⟨⟨X0, X1, Y2, _, t2, rfl, h0, h1, n2, ?_⟩, fun m hm => hl m (List.mem_of_mem_eraseIdx hm), hfew⟩
  cases hf : f j with
  | true => rw [b2 hf]; exact ht
  | false => rw [a2 hf]; omega
theorem tw_double {s : LkS} {n k : Nat} {m : Int × List UInt8} {sl : Bool} (h : Tw s n sl) (hk : s.net.late[k]? = some m) : Tw (doubleM s m) n sl := by
  obtain ⟨⟨X0, X1, X2, f, t, hs, h0, h1, h2, ht⟩, hl, hfew⟩ := h
  obtain ⟨j, hj, rfl⟩ := hl m (List.mem_of_getElem? hk)
  obtain ⟨lt, hlt⟩ : ∃ lt, s.net.late = lt := ⟨_, rfl⟩
  rw [hlt] at hs hl hk
  clear hlt
  subst hs
  refine ⟨⟨X0, X1, X2, f, t, rfl, h0, h1, h2, ht⟩, fun m hm => ?_, hfew⟩
  have hm2 : m ∈ lt ++ [lateB j] := hm
  rcases List.mem_append.1 hm2 with h9 | h9
  · exact hl m h9
  · exact ⟨j, hj, by simpa using h9⟩
theorem tw_read {s : LkS} {n i : Nat} {sl : Bool} (h : Tw s n sl) (hi : i < n) : readL s ⟨1, [0, 1, 2]⟩ (i : Int) = (dataB i, 0, s) := by
  obtain ⟨⟨X0, X1, X2, f, t, hs, h0, h1, h2, ht⟩, hl, hfew⟩ := h
  obtain ⟨lt, hlt⟩ : ∃ lt, s.net.late = lt := ⟨_, rfl⟩
  rw [hlt] at hs
  clear hlt hl
  subst hs
  have hr := right_read i (by omega)
  have e0 := nod_read h0 i (by omega)
  simp only [decide_eq_true hi, if_true] at e0
  have hf : NetS.fate ⟨[], lt⟩ = 0 := by show mod5 0 = 0; decide
  have a0 : askL (Three X0 X1 X2 ⟨[], lt⟩) (0 : Int) 4 1 (i : Int) [] = (some ⟨0, (n : Int), sl, dataB i⟩, Three X0 X1 X2 ⟨[], lt⟩) := by
    have := askL_at ⟨[], lt⟩ [some X0, some X1, some X2] 0 (some X0) 4 1 (i : Int) [] hr rfl hf
    have hsd : NetS.send ⟨[], lt⟩ ((0 : Nat) : Int) (frameB 1 (reqB 4 1 (i : Int) [])) = ⟨[], lt⟩ := by unfold NetS.send; rw [hf, if_neg (by decide)]; rfl
    rw [hsd] at this
    refine this.trans ?_
    show ((askD (some X0) 4 1 (i : Int) []).1, (⟨_, [(askD (some X0) 4 1 (i : Int) []).2, some X1, some X2]⟩ : LkS)) = _
    rw [e0]
    rfl
  have hrd : readsL (Three X0 X1 X2 ⟨[], lt⟩) 1 (i : Int) [0, 1, 2] = (some (dataB i), [], Three X0 X1 X2 ⟨[], lt⟩) := by
    unfold readsL
    rw [a0]
    simp
  unfold readL
  rw [if_pos (may_three (by omega))]
  show (match (readsL (Three X0 X1 X2 ⟨[], lt⟩) 1 (i : Int) [0, 1, 2]).1 with
    | some b => (b, (0 : Int), (readsL (Three X0 X1 X2 ⟨[], lt⟩) 1 (i : Int) [0, 1, 2]).2.2)
    | none => ([], if 0 < cntE 32 (readsL (Three X0 X1 X2 ⟨[], lt⟩) 1 (i : Int) [0, 1, 2]).2.1 then 32 else if (3 : Nat) ≤ cntE 3 (readsL (Three X0 X1 X2 ⟨[], lt⟩) 1 (i : Int) [0, 1, 2]).2.1 then 3 else 33, (readsL (Three X0 X1 X2 ⟨[], lt⟩) 1 (i : Int) [0, 1, 2]).2.2)) = _
  rw [hrd]
theorem tw_seal {s : LkS} {n : Nat} (h : Tw s n false) : ∃ s', sealL s ⟨1, [0, 1, 2]⟩ = ((n : Int), 0, s') ∧ Tw s' n true ∧ s'.net.late = s.net.late := by
  obtain ⟨⟨X0, X1, X2, f, t, hs, h0, h1, h2, ht⟩, hl, hfew⟩ := h
  obtain ⟨lt, hlt⟩ : ∃ lt, s.net.late = lt := ⟨_, rfl⟩
  rw [hlt] at hs hl ⊢
  clear hlt
  subst hs
  obtain ⟨Y0, e0, n0⟩ := nod_seal h0
  obtain ⟨Y1, e1, n1⟩ := nod_seal h1
  obtain ⟨Y2, e2, n2⟩ := nod_seal h2
  have hq := replies_three lt 3 1 0 [] right_seal3 e0 e1 e2
  refine ⟨Three Y0 Y1 Y2 ⟨[], lt⟩, ?_, ⟨⟨Y0, Y1, Y2, f, t, rfl, n0, n1, n2, ht⟩, hl, hfew⟩, rfl⟩
  unfold sealL
  rw [if_pos (may_three (by omega))]
  show (if cntE 0 (repliesL (Three X0 X1 X2 ⟨[], lt⟩) 3 1 0 [] [0, 1, 2]).1 < (⟨1, [0, 1, 2]⟩ : Cfg).quorum then ((0 : Int), firstE [7] (repliesL (Three X0 X1 X2 ⟨[], lt⟩) 3 1 0 [] [0, 1, 2]).1, (repliesL (Three X0 X1 X2 ⟨[], lt⟩) 3 1 0 [] [0, 1, 2]).2) else (tailL (repliesL (Three X0 X1 X2 ⟨[], lt⟩) 3 1 0 [] [0, 1, 2]).1, (0 : Int), (repliesL (Three X0 X1 X2 ⟨[], lt⟩) 3 1 0 [] [0, 1, 2]).2)) = _
  rw [hq]
  have hc : cntE 0 [(⟨0, (n : Int), true, []⟩ : LRp), ⟨0, (n : Int), true, []⟩, ⟨0, (t : Int), true, []⟩] = 3 := rfl
  have htl : tailL [(⟨0, (n : Int), true, []⟩ : LRp), ⟨0, (n : Int), true, []⟩, ⟨0, (t : Int), true, []⟩] = (n : Int) := by
    show max (max (max (0 : Int) n) n) t = n
    omega
  simp only [hc, htl]
  rfl
theorem tw_place {s : LkS} {n i : Nat} {sl : Bool} (h : Tw s n sl) (hi : i < n) : (copiesL (repliesL s 4 1 (i : Int) [] [0, 1, 2]).1 ≠ []) ∧ placeL s ⟨1, [0, 1, 2]⟩ (i : Int) = (0, s) := by
  obtain ⟨⟨X0, X1, X2, f, t, hs, h0, h1, h2, ht⟩, hl, hfew⟩ := h
  obtain ⟨lt, hlt⟩ : ∃ lt, s.net.late = lt := ⟨_, rfl⟩
  rw [hlt] at hs
  clear hlt hl
  subst hs
  have e0 := nod_read h0 i (by omega)
  have e1 := nod_read h1 i (by omega)
  have e2 := nod_read h2 i (by omega)
  simp only [decide_eq_true hi, if_true] at e0 e1
  have hq := replies_three lt 4 1 (i : Int) [] (right_read i (by omega)) e0 e1 e2
  have hc : 2 ≤ (copiesL [(⟨0, (n : Int), sl, dataB i⟩ : LRp), ⟨0, (n : Int), sl, dataB i⟩, ⟨if f i = true then 0 else 3, (t : Int), sl, if f i = true then dataB i else []⟩]).length := by
    unfold copiesL
    cases f i <;> simp
  constructor
  · rw [hq]
    intro e
    simp only at e
    rw [e] at hc
    simp at hc
  · unfold placeL
    show (if 0 < cntE 32 (repliesL (Three X0 X1 X2 ⟨[], lt⟩) 4 1 (i : Int) [] [0, 1, 2]).1 ∨ (⟨1, [0, 1, 2]⟩ : Cfg).quorum ≤ (copiesL (repliesL (Three X0 X1 X2 ⟨[], lt⟩) 4 1 (i : Int) [] [0, 1, 2]).1).length then ((0 : Int), (repliesL (Three X0 X1 X2 ⟨[], lt⟩) 4 1 (i : Int) [] [0, 1, 2]).2) else _) = _
    rw [if_pos (.inr (by rw [hq]; exact hc)), hq]
theorem tw_repair {s : LkS} {n : Nat} {sl : Bool} (h : Tw s n sl) : ∀ (j i : Nat), i + j = n → placesOk ⟨1, [0, 1, 2]⟩ j s (i : Int) ∧ placesL ⟨1, [0, 1, 2]⟩ j s (i : Int) = (0, s)
  | 0, i, _ => ⟨trivial, rfl⟩
  | j + 1, i, hij => by
    obtain ⟨h1, h2⟩ := tw_place h (i := i) (by omega)
    obtain ⟨h3, h4⟩ := tw_repair h j (i + 1) (by omega)
    have e : (i : Int) + 1 = ((i + 1 : Nat) : Int) := by omega
    constructor
    · refine ⟨.inr h1, fun _ => ?_⟩
      rw [h2, e]
      exact h3
    · unfold placesL
      rw [h2, if_pos rfl, e]
      exact h4
theorem tw_begin : Tw (Three (St.fresh, Dk.fresh 200) (St.fresh, Dk.fresh 200) (St.fresh, Dk.fresh 200) ⟨[], []⟩) 0 false :=
  ⟨⟨_, _, _, _, 0, rfl, by simpa using nod_fresh, by simpa using nod_fresh, nod_fresh, Nat.le_refl _⟩, (fun m hm => by cases hm), Nat.zero_le _⟩
end Go.Proofs.YtbahjinlcbjikaaGreat
