import Derived.Test.YtbahjinlcbjikaaGreatMQLLgA
import Derived.Test.YtbahjinlcbjikaaGreatMLit
/-! gazettelaw07: a link that lies from a world on, and what is done with it. -/
namespace Go.Proofs.YtbahjinlcbjikaaGreat
open Go.RowKit

def RL (W0 w : World) (L : Nat) (S : LkS) : Prop := ∃ p, LkAt w L p S ∧ Below W0.heap.size W0 w ∧ ∀ b, p.all L b → W0.heap.size ≤ b
section
variable {W0 w w2 : World} {L : Nat} {S : LkS}
theorem RL.keep (h : RL W0 w L S) (hb : Below w.heap.size w w2) : RL W0 w2 L S := by
  obtain ⟨p, h1, h2, h3⟩ := h
  exact ⟨p, h1.keep hb, h2.trans (hb.mono h2.size), h3⟩
theorem RL.below (h : RL W0 w L S) : Below W0.heap.size W0 w := by obtain ⟨p, _, h2, _⟩ := h; exact h2
theorem RL.opened (h : RL W0 w L S) (hb : Below w.heap.size w w2) : ∃ p, LkAt w2 L p S ∧ (∀ g, w.heap.size ≤ g → ¬ p.all L g) ∧ ∀ S' w', LkPost w2 L p S' w' → RL W0 w' L S' := by
  obtain ⟨p, h1, h2, h3⟩ := h
  refine ⟨p, h1.keep hb, fun g hg hc => by have := h1.size hc; omega, ?_⟩
  rintro S' w' ⟨p', g1, g2, g3⟩
  have hs := h2.size
  have hs2 := hb.size
  exact ⟨p', g1, (h2.trans (hb.mono h2.size)).trans (g3.belowOf (by omega) (fun b hb hc => by have := h3 b hc; omega)), fun b hb => (g2 b hb).elim (h3 b) (fun h => by omega)⟩
theorem RL.net (h : RL W0 w L S) : ∃ N, w.cell? ⟨L, 0, none⟩ = some (.pointer (some ⟨N, 0, none⟩)) := by
  obtain ⟨p, h1, _⟩ := h
  exact ⟨p.q.N, h1.link.cell (o := 0) rfl⟩
theorem link_Luck {W : World} {p : LkP} {s : LkS} (h : LkAt W L p s) (v : Value) (m : List Int) (hv : Is W v m) (hl : (s.net.luck.length + m.length) * 8 ≤ 140737488355328) :
    Calls Tryz.prog 27 #[.pointer (some ⟨p.q.N, 0, none⟩), v] W fun e w' => (∃ x, e = .returned x) ∧ LkPost W L p (luckL s m) w' := by
  refine (net_Luck_at h.net m v hv hl).mono ?_
  rintro e w' ⟨hx, q', k1, k2, k3, k4⟩
  obtain ⟨g1, g2⟩ := h.netted k1 k2 k3 k4
  exact ⟨hx, _, g1, g2, k4.mono (fun b _ hb => .inr (.inl hb))⟩
theorem rl_luck (h : RL W0 w L S) (N : Nat) (hN : w.cell? ⟨L, 0, none⟩ = some (.pointer (some ⟨N, 0, none⟩))) (hb : Below w.heap.size w w2) (v : Value) (m : List Int) (hv : Is w2 v m) (hl : (S.net.luck.length + m.length) * 8 ≤ 140737488355328) :
    Calls Tryz.prog 27 #[.pointer (some ⟨N, 0, none⟩), v] w2 fun e w' => (∃ x, e = .returned x) ∧ RL W0 w' L (luckL S m) := by
  obtain ⟨p, h1, h2, h3⟩ := h.opened hb
  have hc := h1.link.cell (o := 0) rfl
  obtain ⟨p0, g1, _⟩ := h
  rw [hb.cell g1.link.lt, hN] at hc
  simp only [List.getElem_toArray, List.getElem_cons_zero, Option.some.injEq, Value.pointer.injEq, Addr.mk.injEq, and_true] at hc
  subst hc
  refine (link_Luck h1 v m hv hl).mono ?_
  rintro e w' ⟨hx, hp⟩
  exact ⟨hx, h3 _ _ hp⟩
section
variable (h : RL W0 w L S) (hpr : S.room 2200000000) (hb : Below w.heap.size w w2) (iz : Int) (nv : Value) (nodes : List Int) (hn : Is w2 nv nodes) (hnv : ∀ g, nv.ownBlock = some g → w.heap.size ≤ g ∧ g < w2.heap.size) (hnl : nodes.length ≤ 1073741824)
include h hpr hb hn hnv hnl
theorem rl_append (pos : Int) (dv : Value) (l : List UInt8) (hm : mayB S ⟨iz, nodes⟩ pos 4095 = true) (hl : l.length ≤ 65504) (hd : Bs w2 dv l) (hdv : ∀ g, dv.ownBlock = some g → w.heap.size ≤ g ∧ g < w2.heap.size) :
    Calls Tryz.prog 18 #[.pointer (some ⟨L, 0, none⟩), .agg #[.int .i64 iz, nv], .int .i64 pos, dv] w2 fun e w' => e = .returned (.int .i64 (appendL S ⟨iz, nodes⟩ pos l).1) ∧ RL W0 w' L (appendL S ⟨iz, nodes⟩ pos l).2 := by
  obtain ⟨p, h1, h2, h3⟩ := h.opened hb
  refine (log_Append h1 (hpr.le (by omega)) iz nv nodes pos dv l hm hl hd (fun g hg => ⟨h2 g (hdv g hg).1, (hdv g hg).2⟩) hn hnl (fun g hg => ⟨h2 g (hnv g hg).1, (hnv g hg).2⟩)).mono ?_
  rintro e w' ⟨rfl, hp⟩
  exact ⟨rfl, h3 _ _ hp⟩
theorem rl_trim (pos : Int) (hm : mayB S ⟨iz, nodes⟩ pos 4096 = true) :
    Calls Tryz.prog 21 #[.pointer (some ⟨L, 0, none⟩), .agg #[.int .i64 iz, nv], .int .i64 pos] w2 fun e w' => e = .returned (.int .i64 (trimL S ⟨iz, nodes⟩ pos).1) ∧ RL W0 w' L (trimL S ⟨iz, nodes⟩ pos).2 := by
  obtain ⟨p, h1, h2, h3⟩ := h.opened hb
  refine (log_Trim h1 (hpr.le (by omega)) iz nv nodes pos hm hn hnl (fun g hg => ⟨h2 g (hnv g hg).1, (hnv g hg).2⟩)).mono ?_
  rintro e w' ⟨rfl, hp⟩
  exact ⟨rfl, h3 _ _ hp⟩
theorem rl_seal (hm : mayB S ⟨iz, nodes⟩ 0 0 = true) :
    Calls Tryz.prog 20 #[.pointer (some ⟨L, 0, none⟩), .agg #[.int .i64 iz, nv]] w2 fun e w' => e = .returned (.tuple #[.int .i64 (sealL S ⟨iz, nodes⟩).1, .int .i64 (sealL S ⟨iz, nodes⟩).2.1]) ∧ RL W0 w' L (sealL S ⟨iz, nodes⟩).2.2 := by
  obtain ⟨p, h1, h2, h3⟩ := h.opened hb
  refine (log_Seal h1 (hpr.le (by omega)) iz nv nodes hm hn hnl (fun g hg => ⟨h2 g (hnv g hg).1, (hnv g hg).2⟩)).mono ?_
  rintro e w' ⟨rfl, hp⟩
  exact ⟨rfl, h3 _ _ hp⟩
theorem rl_repair (fa tb : Int) (hm : mayB S ⟨iz, nodes⟩ fa tb = true) (htb : tb ≤ 4096) (hok : placesOk ⟨iz, nodes⟩ (tb - fa).toNat S fa) :
    Calls Tryz.prog 24 #[.pointer (some ⟨L, 0, none⟩), .agg #[.int .i64 iz, nv], .int .i64 fa, .int .i64 tb] w2 fun e w' => e = .returned (.int .i64 (repairL S ⟨iz, nodes⟩ fa tb).1) ∧ RL W0 w' L (repairL S ⟨iz, nodes⟩ fa tb).2 := by
  obtain ⟨p, h1, h2, h3⟩ := h.opened hb
  refine (log_Repair h1 hpr iz nv nodes fa tb hm htb hn hnl (fun g hg => ⟨h2 g (hnv g hg).1, (hnv g hg).2⟩) hok).mono ?_
  rintro e w' ⟨rfl, hp⟩
  exact ⟨rfl, h3 _ _ hp⟩
/-- What is read lies in a block of its own, behind all that was. -/
theorem rl_read (pos : Int) (hm : mayB S ⟨iz, nodes⟩ pos 4095 = true) :
    Calls Tryz.prog 19 #[.pointer (some ⟨L, 0, none⟩), .agg #[.int .i64 iz, nv], .int .i64 pos] w2 fun e w' => ∃ v p', e = .returned (.tuple #[v, .int .i64 (readL S ⟨iz, nodes⟩ pos).2.1]) ∧ LkAt w' L p' (readL S ⟨iz, nodes⟩ pos).2.2 ∧ Below W0.heap.size W0 w' ∧ (∀ b, p'.all L b → W0.heap.size ≤ b) ∧ Bs w' v (readL S ⟨iz, nodes⟩ pos).1 ∧ ∀ g, v.ownBlock = some g → ¬ p'.all L g ∧ g < w'.heap.size ∧ W0.heap.size ≤ g := by
  have hw0 := (h.keep hb).below
  obtain ⟨p, h1, h2, h3⟩ := h
  refine (log_Read (h1.keep hb) (hpr.le (by omega)) iz nv nodes pos hm hn hnl (fun g hg => ⟨fun hc => by have := h1.size hc; have := (hnv g hg).1; omega, (hnv g hg).2⟩)).mono ?_
  rintro e w' ⟨v, p', rfl, g1, g2, g3, g4, g5⟩
  refine ⟨v, p', rfl, g1, hw0.trans (g3.belowOf hw0.size (fun b hb hc => by have := h3 b hc; omega)), fun b hb => (g2 b hb).elim (h3 b) (fun h => Nat.le_trans hw0.size h), g4, fun g hg => ⟨(g5 g hg).1, (g5 g hg).2.2, Nat.le_trans hw0.size (g5 g hg).2.1⟩⟩
end
end
/-! So many messages more are late. -/
theorem appendL_late (s : LkS) (c : Cfg) (pos : Int) (l : List UInt8) : (appendL s c pos l).2.net.late.length ≤ s.net.late.length + c.nodes.length := by
  unfold appendL
  split
  · split
    · show s.net.late.length ≤ _
      omega
    · exact repliesL_late c.nodes s
  · show s.net.late.length ≤ _
    omega
theorem sealL_late (s : LkS) (c : Cfg) : (sealL s c).2.2.net.late.length ≤ s.net.late.length + c.nodes.length := by
  unfold sealL
  split
  · split
    · exact repliesL_late c.nodes s
    · exact repliesL_late c.nodes s
  · show s.net.late.length ≤ _
    omega
theorem trimL_late (s : LkS) (c : Cfg) (pos : Int) : (trimL s c pos).2.net.late.length ≤ s.net.late.length + c.nodes.length := by
  unfold trimL
  split
  · exact repliesL_late c.nodes s
  · show s.net.late.length ≤ _
    omega
theorem readsL_late (id pos : Int) : ∀ (ns : List Int) (s : LkS), (readsL s id pos ns).2.2.net.late.length ≤ s.net.late.length + ns.length
  | [], s => by show s.net.late.length ≤ _; omega
  | n :: r, s => by
    have h1 := askL_late s n 4 id pos []
    have h2 := readsL_late id pos r (askL s n 4 id pos []).2
    unfold readsL
    split
    · show _ ≤ s.net.late.length + (r.length + 1)
      omega
    · split
      · show (askL s n 4 id pos []).2.net.late.length ≤ s.net.late.length + (r.length + 1)
        omega
      · show (readsL (askL s n 4 id pos []).2 id pos r).2.2.net.late.length ≤ s.net.late.length + (r.length + 1)
        omega
theorem readL_late (s : LkS) (c : Cfg) (pos : Int) : (readL s c pos).2.2.net.late.length ≤ s.net.late.length + c.nodes.length := by
  have h := readsL_late c.id pos c.nodes s
  unfold readL
  split
  · split
    · exact h
    · exact h
  · show s.net.late.length ≤ _
    omega
theorem placesL_late (c : Cfg) : ∀ (j : Nat) (s : LkS) (pos : Int), (placesL c j s pos).2.net.late.length ≤ s.net.late.length + j * (2 * c.nodes.length)
  | 0, s, pos => by show s.net.late.length ≤ _; omega
  | j + 1, s, pos => by
    have h1 := placeL_late s c pos
    have h2 := placesL_late c j (placeL s c pos).2 (pos + 1)
    have h3 : (j + 1) * (2 * c.nodes.length) = j * (2 * c.nodes.length) + 2 * c.nodes.length := Nat.succ_mul _ _
    unfold placesL
    split
    · omega
    · omega
theorem repairL_late (s : LkS) (c : Cfg) (a b : Int) : (repairL s c a b).2.net.late.length ≤ s.net.late.length + (b - a).toNat * (2 * c.nodes.length) := by
  unfold repairL
  split
  · exact placesL_late c _ s a
  · show s.net.late.length ≤ _
    omega
end Go.Proofs.YtbahjinlcbjikaaGreat

/-! gazettelaw07.LogletTwice: the plain law. -/
namespace Go.Proofs.YtbahjinlcbjikaaGreat
open Go.RowKit

/-- A place's data. -/
def dataB (i : Nat) : List UInt8 := [UInt8.ofNat (97 + i % 26), UInt8.ofNat i]
/-- How many of the first ones. -/
def cntP : Nat → (Nat → Bool) → Nat
  | 0, _ => 0
  | n + 1, f => cntP n f + if f n = true then 1 else 0
theorem cntP_le (f : Nat → Bool) : ∀ n, cntP n f ≤ n
  | 0 => Nat.le_refl 0
  | n + 1 => by
    have := cntP_le f n
    unfold cntP
    split <;> omega
def addF (f : Nat → Bool) (i : Nat) : Nat → Bool := fun j => decide (j = i) || f j
theorem cntP_add (f : Nat → Bool) (i : Nat) (h : f i = false) : ∀ n, cntP n (addF f i) = cntP n f + if i < n then 1 else 0
  | 0 => rfl
  | n + 1 => by
    have ih := cntP_add f i h n
    unfold cntP
    rw [ih]
    by_cases h1 : n = i
    · subst h1
      have e1 : addF f n n = true := by simp [addF]
      rw [e1, h, if_neg (Nat.lt_irrefl n), if_pos (Nat.lt_succ_self n)]
      simp
    · have e1 : addF f i n = f n := by simp [addF, h1]
      rw [e1]
      by_cases h2 : i < n
      · have e2 : (if i < n then 1 else 0 : Nat) = 1 := if_pos h2
        have e3 : (if i < n + 1 then 1 else 0 : Nat) = 1 := if_pos (by omega)
        rw [e2, e3]
        omega
      · have e2 : (if i < n then 1 else 0 : Nat) = 0 := if_neg h2
        have e3 : (if i < n + 1 then 1 else 0 : Nat) = 0 := if_neg (by omega)
        rw [e2, e3]
        omega
/-- A node's slots of the loglet 1: which are there, how far, sealed or not. -/
structure Nod (X : St × Dk) (f : Nat → Bool) (t : Nat) (sl : Bool) : Prop where
  slot : ∀ i : Nat, X.1.slots (1, (i : Int)) = if f i = true then some (dataB i) else none
  get : X.1.get 1 = ((t : Int), 0, sl)
  fin : X.1.fin ≤ cntP 20 f + if sl = true then 1 else 0
  len : X.2.texts.length = 200
  few : ∀ i, f i = true → i < 20
  tail : t ≤ 20
theorem nod_fresh : Nod (St.fresh, Dk.fresh 200) (fun _ => false) 0 false :=
  ⟨fun i => rfl, rfl, Nat.zero_le _, List.length_replicate, fun i h => by simp at h, Nat.zero_le _⟩
theorem dataB_len (i : Nat) : (dataB i).length = 2 := rfl
theorem chunks_one (kd lo po : Int) {l : List UInt8} (h : l.length ≤ 2) : chunks (entryB kd lo po l) = 1 := by
  unfold chunks
  have : (entryB kd lo po l).length = l.length + 13 := by simp [entryB, lowB_length]; omega
  rw [this]
  omega
theorem get_setState (S : St) (k : Int) (x : Int × Int × Bool) : (S.setState k x).get k = x := by
  unfold St.get St.setState
  simp
theorem ask_of2 {S : St} {D : Dk} {k lo po : Int} {l : List UInt8} {e : Int} {b : List UInt8} {S' : St} {D' : Dk} {tl tr : Int} {sl : Bool} (h : doF S D k lo po l = (e, b, S', D')) (hg : S'.get lo = (tl, tr, sl)) (ht : tellsB e (max tl tr) b.length = true) :
    askD (some (S, D)) k lo po l = (some ⟨e, max tl tr, sl, b⟩, some (S', D')) := by
  unfold askD
  simp only [h, hg, tailF]
  rw [if_pos ht]
theorem tells_ok {e : Int} {t n : Nat} (h0 : 0 ≤ e) (h1 : e ≤ 255) (h2 : t ≤ 20) (h3 : n ≤ 2) : tellsB e (max (t : Int) 0) n = true := by
  unfold tellsB
  exact decide_eq_true ⟨h0, h1, by omega, by omega, by omega⟩
theorem max_zero (t : Nat) : max (t : Int) 0 = (t : Int) := by omega
theorem addF_same {f : Nat → Bool} {i : Nat} (h : f i = true) : addF f i = f := by
  funext j
  unfold addF
  by_cases hj : j = i
  · subst hj
    simp [h]
  · simp [hj]
theorem nod_write {X : St × Dk} {f : Nat → Bool} {t : Nat} (h : Nod X f t false) (i : Nat) (hi : i < 20) :
    ∃ X' t', askD (some X) 1 1 (i : Int) (dataB i) = (some ⟨0, ((t' : Nat) : Int), false, []⟩, some X') ∧ Nod X' (addF f i) t' false ∧ (f i = false → t' = max t (i + 1)) ∧ (f i = true → t' = t) := by
  obtain ⟨S, D⟩ := X
  have hg : S.get 1 = ((t : Int), 0, false) := h.get
  have hs : S.slots (1, (i : Int)) = if f i = true then some (dataB i) else none := h.slot i
  have hc := cntP_le f 20
  cases hf : f i with
  | true =>
    rw [hf, if_pos rfl] at hs
    have hd : doF S D 1 1 (i : Int) (dataB i) = (0, [], S, D) := by
      have hp : putF S D 1 (i : Int) (dataB i) false = (0, S, D) := by
        unfold putF
        rw [hg, hs, if_neg (by show ¬ (i : Int) < 0; omega)]
        simp
      unfold doF
      rw [if_pos rfl, if_pos (by omega), hp]
    refine ⟨(S, D), t, ?_, ?_, (fun e => by cases e), fun _ => rfl⟩
    · rw [ask_of2 hd hg (tells_ok (by omega) (by omega) h.tail (by simp)), max_zero]
    · rw [addF_same hf]
      exact h
  | false =>
    rw [hf, if_neg (by simp)] at hs
    have hfin : S.fin + 1 ≤ D.texts.length := by
      have h1 := h.fin
      have h2 : D.texts.length = 200 := h.len
      simp at h1
      omega
    obtain ⟨S', hS'⟩ : ∃ S', { applyPut S 1 (i : Int) (dataB i) with fin := S.fin + 1, num := S.num + 1 } = S' := ⟨_, rfl⟩
    obtain ⟨D', hD'⟩ : ∃ D', (D.wrote S.fin (entryB 1 1 (i : Int) (dataB i)) S.num 1).synced = D' := ⟨_, rfl⟩
    have hd : doF S D 1 1 (i : Int) (dataB i) = (0, [], S', D') := by
      have hp : putF S D 1 (i : Int) (dataB i) false = (0, S', D') := by
        unfold putF
        rw [hg, hs, if_neg (by show ¬ (i : Int) < 0; omega)]
        show (if (false && !false) = true then ((30 : Int), S, D) else writeF S (applyPut S 1 (i : Int) (dataB i)) D 1 1 (i : Int) (dataB i)) = _
        rw [if_neg (by simp)]
        unfold writeF
        rw [chunks_one 1 1 (i : Int) (by rw [dataB_len]; omega), if_pos hfin, hS', hD']
      unfold doF
      rw [if_pos rfl, if_pos (by omega), hp]
    have hg' : S'.get 1 = (((max t (i + 1) : Nat) : Int), 0, false) := by
      rw [← hS']
      show ((S.setSlot (1, (i : Int)) (dataB i)).setState 1 (max (S.get 1).1 ((i : Int) + 1), (S.get 1).2.1, (S.get 1).2.2)).get 1 = _
      rw [get_setState, hg]
      simp only [Prod.mk.injEq, and_true]
      omega
    have ht9 : max t (i + 1) ≤ 20 := by have := h.tail; omega
    refine ⟨(S', D'), max t (i + 1), ?_, ⟨fun j => ?_, hg', ?_, ?_, fun j hj => ?_, ht9⟩, fun _ => rfl, (fun e => by cases e)⟩
    · rw [ask_of2 hd hg' (tells_ok (by omega) (by omega) ht9 (by simp)), max_zero]
    · show S'.slots (1, (j : Int)) = _
      rw [← hS']
      show (if ((1 : Int), (j : Int)) = (1, (i : Int)) then some (dataB i) else S.slots (1, (j : Int))) = _
      by_cases hj : j = i
      · subst hj
        simp [addF]
      · have hne : ¬ ((1 : Int), (j : Int)) = (1, (i : Int)) := fun e => hj (by injection e with _ e; omega)
        rw [if_neg hne]
        have := h.slot j
        have e1 : addF f i j = f j := by simp [addF, hj]
        rw [e1]
        exact this
    · have h1 := h.fin
      have h2 := cntP_add f i hf 20
      rw [if_pos hi] at h2
      have e : S'.fin = S.fin + 1 := by rw [← hS']
      show S'.fin ≤ _
      rw [e, h2]
      simp at h1 ⊢
      exact h1
    · show D'.texts.length = 200
      rw [← hD']
      have h2 : D.texts.length = 200 := h.len
      simp [Dk.synced, Dk.wrote, h2]
    · by_cases hji : j = i
      · omega
      · have e1 : addF f i j = f j := by simp [addF, hji]
        exact h.few j (by rw [← e1]; exact hj)
theorem nod_read {X : St × Dk} {f : Nat → Bool} {t : Nat} {sl : Bool} (h : Nod X f t sl) (i : Nat) (hi : i < 20) :
    askD (some X) 4 1 (i : Int) [] = (some ⟨if f i = true then 0 else 3, (t : Int), sl, if f i = true then dataB i else []⟩, some X) := by
  obtain ⟨S, D⟩ := X
  have hg : S.get 1 = ((t : Int), 0, sl) := h.get
  have hs : S.slots (1, (i : Int)) = if f i = true then some (dataB i) else none := h.slot i
  have hd : doF S D 4 1 (i : Int) [] = (if f i = true then 0 else 3, if f i = true then dataB i else [], S, D) := by
    have hp : getF S 1 (i : Int) = (if f i = true then 0 else 3, if f i = true then dataB i else []) := by
      unfold getF
      rw [hg, hs, if_neg (by show ¬ (i : Int) < 0; omega)]
      cases f i <;> rfl
    unfold doF
    rw [if_neg (by omega), if_neg (by omega), if_neg (by omega), if_pos rfl, if_pos (by omega), hp]
  rw [ask_of2 hd hg (tells_ok (by split <;> omega) (by split <;> omega) h.tail (by split <;> simp [dataB])), max_zero]
theorem nod_seal {X : St × Dk} {f : Nat → Bool} {t : Nat} (h : Nod X f t false) :
    ∃ X', askD (some X) 3 1 0 [] = (some ⟨0, (t : Int), true, []⟩, some X') ∧ Nod X' f t true := by
  obtain ⟨S, D⟩ := X
  have hg : S.get 1 = ((t : Int), 0, false) := h.get
  have hc := cntP_le f 20
  have hfin : S.fin + 1 ≤ D.texts.length := by
    have h1 := h.fin
    have h2 : D.texts.length = 200 := h.len
    simp at h1
    omega
  obtain ⟨S', hS'⟩ : ∃ S', { applySeal S 1 with fin := S.fin + 1, num := S.num + 1 } = S' := ⟨_, rfl⟩
  obtain ⟨D', hD'⟩ : ∃ D', (D.wrote S.fin (entryB 2 1 0 []) S.num 1).synced = D' := ⟨_, rfl⟩
  have hd : doF S D 3 1 0 [] = (0, [], S', D') := by
    have hp : sealF S D 1 = (0, S', D') := by
      unfold sealF
      rw [hg]
      show (if false = true then ((0 : Int), S, D) else writeF S (applySeal S 1) D 2 1 0 []) = _
      rw [if_neg (by simp)]
      unfold writeF
      rw [chunks_one 2 1 0 (by simp), if_pos hfin, hS', hD']
    unfold doF
    rw [if_neg (by omega), if_neg (by omega), if_pos rfl, hp]
  have hg' : S'.get 1 = ((t : Int), 0, true) := by
    rw [← hS']
    show (S.setState 1 ((S.get 1).1, (S.get 1).2.1, true)).get 1 = _
    rw [get_setState, hg]
  refine ⟨(S', D'), ?_, fun j => ?_, hg', ?_, ?_, h.few, h.tail⟩
  · rw [ask_of2 hd hg' (tells_ok (by omega) (by omega) h.tail (by simp)), max_zero]
  · show S'.slots (1, (j : Int)) = _
    rw [← hS']
    exact h.slot j
  · have h1 := h.fin
    have e : S'.fin = S.fin + 1 := by rw [← hS']
    show S'.fin ≤ _
    rw [e]
    simp at h1 ⊢
    exact h1
  · show D'.texts.length = 200
    rw [← hD']
    have h2 : D.texts.length = 200 := h.len
    simp [Dk.synced, Dk.wrote, h2]
end Go.Proofs.YtbahjinlcbjikaaGreat
