import Derived.Test.YtcdcjoofcbdilaaGreatMRgLaw
import Derived.Test.YtcdcjoofcbdilaaGreatMQNet
/-! The register, plain law: agree, Read, Swap where no luck waits and more than half are up. -/
namespace Go.Proofs.YtcdcjoofcbdilaaGreat
open Go.RowKit

theorem good_rep (n : Nat) (r : An) (h : r.e = 0) : goodR (List.replicate n r) = List.replicate n r := by
  unfold goodR
  rw [List.filter_eq_self.2]
  intro x hx
  rw [List.eq_of_mem_replicate hx]
  exact decide_eq_true h
theorem learn_rep (n : Nat) (r : An) (h : r.le = false) : learnR (List.replicate n r) = none := by
  unfold learnR
  rw [List.find?_eq_none]
  intro x hx
  rw [List.eq_of_mem_replicate hx, h]
  simp
theorem best_rep (f : An → Int) (n : Nat) (r : An) : bestR f (List.replicate n r) = if 0 < n ∧ 0 < f r then some r else none := by
  have h2 : ∀ (n : Nat) (p : Option An × Int), ¬ p.2 < f r → (List.replicate n r).foldl (fun (p : Option An × Int) r => if p.2 < f r then (some r, f r) else p) p = p := by
    intro n
    induction n with
    | zero => intro p _; rfl
    | succ n ih =>
      intro p hp
      rw [List.replicate_succ, List.foldl_cons, if_neg hp]
      exact ih p hp
  unfold bestR
  cases n with
  | zero => simp
  | succ n =>
    rw [List.replicate_succ, List.foldl_cons]
    by_cases hp : (0 : Int) < f r
    · rw [if_pos hp, h2 n _ (by simp), if_pos ⟨by omega, hp⟩]
    · rw [if_neg hp, h2 n _ hp, if_neg (fun h => hp h.2)]
structure RgM (m j : Nat) (X : Fs × St × Dk) (c : Int → Nat) (v : Int → List UInt8) : Prop where
  ac : AcI m j X.1 X.2.1 X.2.2
  f : FInv X.1 c v
theorem ask_ok1 (key ver bal : Int) (hk : 0 ≤ key ∧ key < 281474976710656) (hv : 1 ≤ ver ∧ ver < 281474976710656) (hb : 1 ≤ bal ∧ bal < 281474976710656) : askOk 1 key ver bal ([] : List UInt8).length = true := decide_eq_true ⟨hk.1, hk.2, by simp, .inl ⟨rfl, hv.1, hv.2, hb.1, hb.2, rfl⟩⟩
theorem ask_ok2 (key ver bal : Int) (l : List UInt8) (hk : 0 ≤ key ∧ key < 281474976710656) (hv : 1 ≤ ver ∧ ver < 281474976710656) (hb : 1 ≤ bal ∧ bal < 281474976710656) (hl : l.length ≤ 4000) : askOk 2 key ver bal l.length = true := decide_eq_true ⟨hk.1, hk.2, hl, .inr (.inl ⟨rfl, hv.1, hv.2, hb.1, hb.2⟩)⟩
theorem ask_ok3 (key ver : Int) (l : List UInt8) (hk : 0 ≤ key ∧ key < 281474976710656) (hv : 1 ≤ ver ∧ ver < 281474976710656) (hl : l.length ≤ 4000) : askOk 3 key ver 0 l.length = true := decide_eq_true ⟨hk.1, hk.2, hl, .inr (.inr (.inl ⟨rfl, hv.1, hv.2, rfl⟩))⟩
theorem ask_ok4 (key : Int) (hk : 0 ≤ key ∧ key < 281474976710656) : askOk 4 key 0 0 ([] : List UInt8).length = true := decide_eq_true ⟨hk.1, hk.2, by simp, .inr (.inr (.inr ⟨rfl, rfl, rfl, rfl⟩))⟩
section
variable {dn : List Bool} {m j : Nat} {X : Fs × St × Dk} {c : Int → Nat} {v : Int → List UInt8} {bs : Int}
theorem most_rgM : (rgM dn X bs).most = dn.length / 2 + 1 := by unfold RgS.most; rw [rgM_len]
theorem read_mix (h : RgM m j X c v) (hu : dn.length / 2 + 1 ≤ upA dn) (h1 : 1 ≤ dn.length) (h9 : dn.length ≤ 9) (key id : Int) (hk : 0 ≤ key ∧ key < 281474976710656) (hi : 0 ≤ id ∧ id < 16) (hc : c key < 1000000) :
    readR (rgM dn X bs) key id = (if c key = 0 then (0, [], 0) else ((c key : Int), v key, 0), rgM dn X bs) := by
  obtain ⟨F, S, D⟩ := X
  have hq := ac_query h.ac key (h.f.best key) hc
  have hh := hear_mix bs 4 key 0 0 [] (ask_ok4 key hk) hq dn
  obtain ⟨fa, hfa⟩ : ∃ fa, F.get (key, (c key : Int)) = fa := ⟨_, rfl⟩
  have hm : mayR (rgM dn (F, S, D) bs) key id = true := decide_eq_true ⟨hk.1, hk.2, hi.1, hi.2, by rw [rgM_len]; omega, by rw [rgM_len]; omega⟩
  have hup : 0 < upA dn := by omega
  simp only at hh
  rw [hfa] at hh
  unfold readR
  rw [if_pos hm]
  simp only [hh]
  rw [good_rep _ _ rfl, best_rep, most_rgM, List.length_replicate, if_neg (by omega)]
  by_cases hz : c key = 0
  · rw [if_pos hz, if_neg (by simp [hz])]
  · rw [if_neg hz, if_pos ⟨hup, by show (0 : Int) < (c key : Int); omega⟩]
    obtain ⟨p, b, hg, hb⟩ := h.f.got key (by omega)
    have hfa2 : fa = ⟨p, b, true, v key⟩ := hfa.symm.trans hg
    subst hfa2
    have hfind : (List.replicate (upA dn) (⟨0, (c key : Int), p, b, true, v key⟩ : An)).find? (fun y => decide (y.ver = (c key : Int)) && y.le) = some ⟨0, (c key : Int), p, b, true, v key⟩ := by
      obtain ⟨u, hu2⟩ : ∃ u, upA dn = u + 1 := ⟨upA dn - 1, by omega⟩
      rw [hu2, List.replicate_succ, List.find?_cons]
      simp
    simp only [hfind]
def setC (c : Int → Nat) (k : Int) (n : Nat) : Int → Nat := fun x => if x = k then n else c x
def setV (v : Int → List UInt8) (k : Int) (l : List UInt8) : Int → List UInt8 := fun x => if x = k then l else v x
theorem agree_mix (h : RgM m j X c v) (hj : j + 3 ≤ m) (hj2 : j + 3 ≤ 4095) (hu : dn.length / 2 + 1 ≤ upA dn) (key id : Int) (hk : 0 ≤ key ∧ key < 281474976710656) (hi : 0 ≤ id ∧ id < 16) (hc : c key < 1000000) (l : List UInt8) (hl : l.length ≤ 100) :
    ∃ X', agreeR (rgM dn X bs) key id ((c key : Int) + 1) (some l) = ((l, 0), rgM dn X' bs) ∧ RgM m (j + 3) X' (setC c key (c key + 1)) (setV v key l) := by
  obtain ⟨F, S, D⟩ := X
  have hz : F.get (key, (c key : Int) + 1) = Fa.zero := h.f.none key _ (.inl (by omega))
  obtain ⟨F1, S1, D1, e1, a1, g1, o1⟩ := ac_ask (v := []) h.ac (by omega) (by omega) h.f.once 1 key ((c key : Int) + 1) (id + 1) (by decide) (by omega) (f' := ⟨id + 1, 0, false, []⟩) (by
    rw [hz]
    unfold doA
    rw [if_pos rfl, if_neg (by show ¬ id + 1 ≤ 0; omega)]
    rfl) ⟨by simp only; omega, by simp only; omega, by simp⟩
  obtain ⟨F2, S2, D2, e2, a2, g2, o2⟩ := ac_ask (v := l) a1 (by omega) (by omega) o1 2 key ((c key : Int) + 1) (id + 1) (by decide) (by omega) (f' := ⟨id + 1, id + 1, false, l⟩) (by
    rw [g1, if_pos rfl]
    unfold doA
    rw [if_neg (by decide), if_pos rfl, if_neg (by rintro (h | ⟨h, _⟩); (· have h2 : id + 1 < id + 1 := h; omega); cases h), if_neg (by simp)]) ⟨by simp only; omega, by simp only; omega, hl⟩
  obtain ⟨F3, S3, D3, e3, a3, g3, o3⟩ := ac_ask (v := l) a2 (by omega) (by omega) o2 3 key ((c key : Int) + 1) 0 (by decide) (by omega) (f' := ⟨id + 1, id + 1, true, l⟩) (by
    rw [g2, if_pos rfl]
    unfold doA
    rw [if_neg (by decide), if_neg (by decide), if_neg (by simp)]
    simp only [Prod.mk.injEq, Fa.mk.injEq, and_true, true_and]
    omega) ⟨by simp only; omega, by simp only; omega, hl⟩
  have k1 := hear_mix bs 1 key ((c key : Int) + 1) (id + 1) [] (ask_ok1 key _ _ hk (by omega) (by omega)) e1 dn
  have k2 := hear_mix bs 2 key ((c key : Int) + 1) (id + 1) l (ask_ok2 key _ _ l hk (by omega) (by omega) (by omega)) e2 dn
  have k3 := hear_mix bs 3 key ((c key : Int) + 1) 0 l (ask_ok3 key _ l hk (by omega) (by omega)) e3 dn
  have hup : 0 < upA dn := by omega
  refine ⟨(F3, S3, D3), ?_, a3, o3, fun k hk1 => ?_, fun k ver hv => ?_⟩
  · have hb : (16 : Int) * 0 + id + 1 = id + 1 := by omega
    have ht : turnR (rgM dn (F, S, D) bs) key id ((c key : Int) + 1) (some l) 0 = (.inl (l, 0), rgM dn (F3, S3, D3) bs) := by
      unfold turnR
      simp only [hb, k1]
      rw [learn_rep _ _ rfl]
      simp only
      rw [good_rep _ _ rfl, best_rep, most_rgM, List.length_replicate, if_pos hu, if_neg (by simp)]
      simp only [k2]
      rw [good_rep _ _ rfl, List.length_replicate, if_pos hu]
      simp only [k3]
    unfold agreeR agreeGo
    rw [ht]
  · unfold setC setV at *
    by_cases hkk : k = key
    · subst hkk
      rw [if_pos rfl, if_pos rfl]
      refine ⟨id + 1, id + 1, ?_, by omega⟩
      show F3.get (k, ((c k + 1 : Nat) : Int)) = _
      rw [g3, if_pos (by rw [Int.natCast_add]; rfl)]
    · rw [if_neg hkk] at hk1 ⊢
      rw [if_neg hkk]
      obtain ⟨p, b, q1, q2⟩ := h.f.got k hk1
      have hne : ∀ x : Int, ¬ (k, x) = (key, (c key : Int) + 1) := fun x e => hkk (congrArg Prod.fst e)
      refine ⟨p, b, ?_, q2⟩
      show F3.get (k, (c k : Int)) = _
      rw [g3, if_neg (hne _), g2, if_neg (hne _), g1, if_neg (hne _)]
      exact q1
  · unfold setC at hv
    have hne : ¬ (k, ver) = (key, (c key : Int) + 1) := fun e => by
      have e1 : k = key := congrArg Prod.fst e
      have e2 : ver = (c key : Int) + 1 := congrArg Prod.snd e
      rw [if_pos e1] at hv
      omega
    show F3.get (k, ver) = _
    rw [g3, if_neg hne, g2, if_neg hne, g1, if_neg hne]
    refine h.f.none k ver ?_
    by_cases hkk : k = key
    · rw [if_pos hkk] at hv
      subst hkk
      omega
    · rw [if_neg hkk] at hv
      exact hv
/-- Swap: the next value, or somebody was faster. -/
theorem swap_mix (h : RgM m j X c v) (hj : j + 3 ≤ m) (hj2 : j + 3 ≤ 4095) (hu : dn.length / 2 + 1 ≤ upA dn) (h1 : 1 ≤ dn.length) (h9 : dn.length ≤ 9) (key id ver : Int) (hk : 0 ≤ key ∧ key < 281474976710656) (hi : 0 ≤ id ∧ id < 16) (hv : 0 ≤ ver ∧ ver < 1000000) (hc : c key < 1000000) (l : List UInt8) (hl : l.length ≤ 100) :
    (ver = (c key : Int) ∧ ∃ X', swapR (rgM dn X bs) key id ver l = (0, rgM dn X' bs) ∧ RgM m (j + 3) X' (setC c key (c key + 1)) (setV v key l)) ∨
    (ver ≠ (c key : Int) ∧ swapR (rgM dn X bs) key id ver l = (34, rgM dn X bs)) := by
  have hm : mayR (rgM dn X bs) key id = true := decide_eq_true ⟨hk.1, hk.2, hi.1, hi.2, by rw [rgM_len]; omega, by rw [rgM_len]; omega⟩
  have hr := read_mix (bs := bs) h hu h1 h9 key id hk hi hc
  have hf1 : (if c key = 0 then ((0 : Int), ([] : List UInt8), (0 : Int)) else ((c key : Int), v key, 0)).2.2 = 0 := by split <;> rfl
  have hf2 : (if c key = 0 then ((0 : Int), ([] : List UInt8), (0 : Int)) else ((c key : Int), v key, 0)).1 = (c key : Int) := by
    split
    · rename_i h0; rw [h0]; rfl
    · rfl
  by_cases hver : ver = (c key : Int)
  · left
    obtain ⟨X', ha, hX⟩ := agree_mix (bs := bs) h hj hj2 hu key id hk hi hc l hl
    refine ⟨hver, X', ?_, hX⟩
    unfold swapR
    rw [if_pos ⟨hm, hv.1, by omega, by omega⟩]
    simp only [hr, hf1, hf2]
    rw [if_neg (by simp), if_neg (by simp [hver]), hver, ha]
    simp
  · right
    refine ⟨hver, ?_⟩
    unfold swapR
    rw [if_pos ⟨hm, hv.1, by omega, by omega⟩]
    simp only [hr, hf1, hf2]
    rw [if_neg (by simp), if_pos (fun e => hver e.symm)]
end
end Go.Proofs.YtcdcjoofcbdilaaGreat

/-! gazettelaw09: a link that a law made, its calls; knows answers true. -/
namespace Go.Proofs.YtcdcjoofcbdilaaGreat
open Go.RowKit

/-- A link that was made since W0. -/
def RR (W0 W : World) (L : Nat) (s : RgS) : Prop := ∃ p, RgAt W L p s ∧ Below W0.heap.size W0 W ∧ ∀ b, p.all L b → W0.heap.size ≤ b
theorem RR.keep {W0 W W' : World} {L : Nat} {s : RgS} (r : RR W0 W L s) (b : Below W.heap.size W W') : RR W0 W' L s := by
  obtain ⟨p, h, hb, ha⟩ := r
  exact ⟨p, h.keep b, hb.trans (b.mono hb.size), ha⟩
theorem RR.below {W0 W : World} {L : Nat} {s : RgS} (r : RR W0 W L s) : Below W0.heap.size W0 W := by
  obtain ⟨p, h, hb, ha⟩ := r
  exact hb
theorem RR.net {W0 W : World} {L : Nat} {s : RgS} (r : RR W0 W L s) : ∃ N, W.cell? ⟨L, 0, none⟩ = some (.pointer (some ⟨N, 0, none⟩)) := by
  obtain ⟨p, h, hb, ha⟩ := r
  exact ⟨_, h.link.cell (o := 0) rfl⟩
section
variable {W0 W : World} {L : Nat} {s : RgS}
/-- What the calls of a link leave below W0, and what they do not own. -/
theorem RR.step {p : RgL} {W' : World} {s' : RgS} (h : RgAt W L p s) (hb : Below W0.heap.size W0 W) (ha : ∀ b, p.all L b → W0.heap.size ≤ b) {p' : RgL} (h' : RgAt W' L p' s') (hg : ∀ b, p'.all L b → p.all L b ∨ W.heap.size ≤ b) (hx : Ext (p.all L) W W') : RR W0 W' L s' :=
  ⟨p', h', hb.trans (hx.belowOf hb.size (fun b hl hc => by have := ha b hc; omega)), fun b hc => (hg b hc).elim (ha b) (fun h => Nat.le_trans hb.size h)⟩
theorem rr_read (r : RR W0 W L s) (hpr : s.room (13 * s.acs.length)) (key idn : Int) :
    Calls Tryz.prog 11 #[.pointer (some ⟨L, 0, none⟩), .int .i64 key, .int .i64 idn] W fun e w' => ∃ v, e = .returned (.tuple #[.int .i64 (readR s key idn).1.1, v, .int .i64 (readR s key idn).1.2.2]) ∧ RR W0 w' L (readR s key idn).2 ∧ Bs w' v (readR s key idn).1.2.1 := by
  obtain ⟨p, h, hb, ha⟩ := r
  refine (reg_Read h hpr key idn).mono ?_
  rintro e w' ⟨p', v, rfl, h', hg, hx, hv, _⟩
  exact ⟨v, rfl, RR.step h hb ha h' hg hx, hv⟩
theorem rr_swap (r : RR W0 W L s) (hpr : s.room (25 * s.acs.length)) {W' : World} (b : Below W.heap.size W W') (key idn ver : Int) (v : Value) (l : List UInt8) (hv : Bs W' v l) (hvo : ∀ g, obk v = some g → (g < W0.heap.size ∨ W.heap.size ≤ g) ∧ g < W'.heap.size) :
    Calls Tryz.prog 12 #[.pointer (some ⟨L, 0, none⟩), .int .i64 key, .int .i64 idn, .int .i64 ver, v] W' fun e w' => e = .returned (.int .i64 (swapR s key idn ver l).1) ∧ RR W0 w' L (swapR s key idn ver l).2 := by
  obtain ⟨p, h, hb, ha⟩ := r
  have h' := h.keep b
  refine (reg_Swap h' hpr key idn ver v l hv (fun g hg => ⟨fun hc => ?_, (hvo g hg).2⟩)).mono ?_
  · have h1 := h.size hc
    have h2 := ha g hc
    rcases (hvo g hg).1 with h3 | h3 <;> omega
  · rintro e w' ⟨p', rfl, h2, hg, hx⟩
    exact ⟨rfl, RR.step h' (hb.trans (b.mono hb.size)) ha h2 hg hx⟩
end

/-- A link whose acceptors that are up are all alike, nothing lost. -/
def MR (W0 W : World) (L : Nat) (dn : List Bool) (m j : Nat) (c : Int → Nat) (v : Int → List UInt8) : Prop := ∃ X, RR W0 W L (rgM dn X 100) ∧ RgM m j X c v
theorem rgM_room (dn : List Bool) (X : Fs × St × Dk) (n : Nat) (h : n ≤ 100000) : (rgM dn X 100).room n := by
  unfold RgS.room rgM
  simp
  omega
section
variable {W0 W : World} {L m j : Nat} {dn : List Bool} {c : Int → Nat} {v : Int → List UInt8}
theorem MR.keep {W' : World} (r : MR W0 W L dn m j c v) (b : Below W.heap.size W W') : MR W0 W' L dn m j c v := by
  obtain ⟨X, h1, h2⟩ := r
  exact ⟨X, h1.keep b, h2⟩
theorem MR.below (r : MR W0 W L dn m j c v) : Below W0.heap.size W0 W := by
  obtain ⟨X, h1, h2⟩ := r
  exact h1.below
theorem MR.net (r : MR W0 W L dn m j c v) : ∃ N, W.cell? ⟨L, 0, none⟩ = some (.pointer (some ⟨N, 0, none⟩)) ∧ Calls Tryz.prog 9 #[.pointer (some ⟨N, 0, none⟩)] W fun e w' => e = .returned (.bool true) ∧ w' = W := by
  obtain ⟨X, ⟨p, h, _, _⟩, _⟩ := r
  exact ⟨_, h.link.cell (o := 0) rfl, net_Made h.net.net⟩
theorem mr_read (r : MR W0 W L dn m j c v) (hu : dn.length / 2 + 1 ≤ upA dn) (h1 : 1 ≤ dn.length) (h9 : dn.length ≤ 9) (key id : Int) (hk : 0 ≤ key ∧ key < 281474976710656) (hi : 0 ≤ id ∧ id < 16) (hc : c key < 1000000) :
    Calls Tryz.prog 11 #[.pointer (some ⟨L, 0, none⟩), .int .i64 key, .int .i64 id] W fun e w' => ∃ vv, e = .returned (.tuple #[.int .i64 (c key : Int), vv, .int .i64 0]) ∧ MR W0 w' L dn m j c v ∧ Bs w' vv (if c key = 0 then [] else v key) := by
  obtain ⟨X, h2, h3⟩ := r
  refine (rr_read h2 (rgM_room _ _ _ (by rw [rgM_len]; omega)) key id).mono ?_
  rw [read_mix h3 hu h1 h9 key id hk hi hc]
  rintro e w' ⟨vv, rfl, h4, hv⟩
  by_cases hz : c key = 0
  · rw [if_pos hz] at hv ⊢
    refine ⟨vv, ?_, ⟨X, h4, h3⟩, ?_⟩
    · rw [hz]; rfl
    · rw [if_pos hz]; exact hv
  · rw [if_neg hz] at hv ⊢
    refine ⟨vv, rfl, ⟨X, h4, h3⟩, ?_⟩
    rw [if_neg hz]; exact hv
theorem mr_swap (r : MR W0 W L dn m j c v) (hj : j + 3 ≤ m) (hj2 : j + 3 ≤ 4095) (hu : dn.length / 2 + 1 ≤ upA dn) (h1 : 1 ≤ dn.length) (h9 : dn.length ≤ 9) {W' : World} (b : Below W.heap.size W W') (key id ver : Int) (hk : 0 ≤ key ∧ key < 281474976710656) (hi : 0 ≤ id ∧ id < 16) (hver : 0 ≤ ver ∧ ver < 1000000) (hc : c key < 1000000) (vv : Value) (l : List UInt8) (hl : l.length ≤ 100) (hv : Bs W' vv l) (hvo : ∀ g, obk vv = some g → (g < W0.heap.size ∨ W.heap.size ≤ g) ∧ g < W'.heap.size) :
    Calls Tryz.prog 12 #[.pointer (some ⟨L, 0, none⟩), .int .i64 key, .int .i64 id, .int .i64 ver, vv] W' fun e w' =>
      (ver = (c key : Int) ∧ e = .returned (.int .i64 0) ∧ MR W0 w' L dn m (j + 3) (setC c key (c key + 1)) (setV v key l)) ∨ (ver ≠ (c key : Int) ∧ e = .returned (.int .i64 34) ∧ MR W0 w' L dn m j c v) := by
  obtain ⟨X, h2, h3⟩ := r
  refine (rr_swap h2 (rgM_room _ _ _ (by rw [rgM_len]; omega)) b key id ver vv l hv hvo).mono ?_
  rcases swap_mix (bs := 100) h3 hj hj2 hu h1 h9 key id ver hk hi hver hc l hl with ⟨he, X', hs, hX⟩ | ⟨he, hs⟩
  · rw [hs]
    rintro e w' ⟨rfl, h4⟩
    exact .inl ⟨he, rfl, X', h4, hX⟩
  · rw [hs]
    rintro e w' ⟨rfl, h4⟩
    exact .inr ⟨he, rfl, X, h4, h3⟩
theorem mixA_up (n : Nat) (X : Fs × St × Dk) : mixA (List.replicate n false) X = List.replicate n (some X) := by simp [mixA]
theorem upA_up (n : Nat) : upA (List.replicate n false) = n := by simp [upA]
/-- New acceptors, none of them stopped. -/
theorem law9_made (W : World) (n k : Nat) (hn0 : 1 ≤ n) (hn9 : n ≤ 1000) (h1 : 1 ≤ k) (h2 : k ≤ 4096) :
    Calls Tryz.prog 8 #[.int .i64 (n : Int), .int .i64 (k : Int)] W fun e w' => ∃ L, e = .returned (.pointer (some ⟨L, 0, none⟩)) ∧ MR W w' L (List.replicate n false) k 0 (fun _ => 0) (fun _ => []) := by
  refine (law9_Acceptors n k hn0 hn9 h1 h2).mono ?_
  rintro e w' ⟨L, p, rfl, h3, hb, ha⟩
  refine ⟨L, rfl, ([], St.fresh, Dk.fresh k), ⟨p, ?_, hb, ha⟩, AcI.start k, finv_begin⟩
  unfold rgM
  rw [mixA_up]
  exact h3
end
end Go.Proofs.YtcdcjoofcbdilaaGreat

/-! gazettelaw09.knows answers true. -/
namespace Go.Proofs.YtcdcjoofcbdilaaGreat
open Go.RowKit

/-- A literal byte row of one byte, ready for a call. -/
theorem lit_lt {W W' : World} {x : Int} (h : (W.alloc (.cells #[.int .u8 x] 5)).freeze ⟨W.heap.size, 1, none⟩ 1 = W') : W.heap.size < W'.heap.size := by
  rw [← h]
  simp [World.freeze]
section
variable {W : World}
set_option maxRecDepth 100000 in
set_option maxHeartbeats 6400000 in
theorem law9_knows : Calls Tryz.prog 10 #[] W fun e w' => e = .returned (.bool true) ∧ Below W.heap.size W w' := by
  have hz0 : wrap64 0 = 0 := by unfold wrap64; omega
  have hup : upA (List.replicate 3 false) = 3 := upA_up 3
  have HUP := hid (show (List.replicate 3 false).length / 2 + 1 ≤ upA (List.replicate 3 false) from by rw [hup]; decide)
  clear hup
  go_enter Tryz.func10, Tryz.ntmps10
  go_wp2_with fail
  refine (law9_made W 3 40 (by decide) (by decide) (by decide) (by decide)).mono ?_
  rintro e A0 ⟨L, rfl, r0⟩
  obtain ⟨N, c0, hm0⟩ := r0.net
  have HM := hid hm0
  have HR0 := hid r0
  clear hm0 r0
  go_wp2_with fail
  refine HM.out.mono ?_
  rintro e w9 ⟨rfl, hw9⟩
  rw [hw9]
  clear hw9 w9 HM c0
  obtain ⟨A4, hA4⟩ : ∃ V, (A0.alloc (.cells #[.int .u8 97] 5)).freeze ⟨A0.heap.size, 1, none⟩ 1 = V := ⟨_, rfl⟩
  have hcv4 := litA_conv hA4
  have HC := hid (mr_swap HR0.out (by decide) (by decide) HUP.out (by decide) (by decide) (litA_below hA4) 0 0 0 (by decide) (by decide) (by decide) (by decide) (.slice (some ⟨A0.heap.size, 0, none⟩) 1 1) [97] (by decide) (litA_bs 97 97 rfl hA4) (fun g hg => by have hg := obk_own hg; cases hg; exact ⟨.inr (Nat.le_refl _), lit_lt hA4⟩))
  clear hA4 HR0
  go_wp2_with fail
  refine HC.out.mono ?_
  rintro e A5 (⟨-, rfl, r5⟩ | ⟨h9, -⟩)
  case inr => exact absurd rfl h9
  clear HC hcv4
  obtain ⟨A6, hA6⟩ : ∃ V, (A5.alloc (.cells #[.int .u8 98] 5)).freeze ⟨A5.heap.size, 1, none⟩ 1 = V := ⟨_, rfl⟩
  have hcv6 := litA_conv hA6
  have hc1 : setC (fun _ => 0) 0 (0 + 1) 0 = 1 := rfl
  have HC := hid (mr_swap r5 (by decide) (by decide) HUP.out (by decide) (by decide) (litA_below hA6) 0 1 0 (by decide) (by decide) (by decide) (by decide) (.slice (some ⟨A5.heap.size, 0, none⟩) 1 1) [98] (by decide) (litA_bs 98 98 rfl hA6) (fun g hg => by have hg := obk_own hg; cases hg; exact ⟨.inr (Nat.le_refl _), lit_lt hA6⟩))
  clear hA6 r5 hc1
  go_wp2_with fail
  refine HC.out.mono ?_
  rintro e A7 (⟨h9, -⟩ | ⟨-, rfl, r7⟩)
  case inl => exact absurd h9 (by decide)
  clear HC hcv6
  have HC := hid (mr_read r7 HUP.out (by decide) (by decide) 0 1 (by decide) (by decide) (by decide))
  clear r7
  go_wp2_with fail
  refine HC.out.mono ?_
  rintro e A8 ⟨vv, rfl, r8, hv8⟩
  have hv8 : Bs A8 vv [97] := hv8
  obtain ⟨a8, c8, rfl⟩ := hv8.form
  have hcv8 : (convert 30 9 (.slice a8 [97].length c8)).run Tryz.prog A8 = .ok (.string ⟨([97] : List UInt8).toArray⟩) A8 := run_bytes_string (P := Tryz.prog) Tryz.underlying30 Tryz.underlying5 Tryz.underlying9 hv8
  have hc8 : ((setC (fun _ => 0) 0 (0 + 1) 0 : Nat) : Int) = 1 := rfl
  rw [hc8]
  simp only [List.length_cons, List.length_nil, Nat.zero_add] at hcv8 ⊢
  have HB := hid r8.below
  clear hv8 r8 HC hc8
  go_wp2_with fail
  refine (law9_num 0 _).mono ?_
  rintro e w9 ⟨rfl, hw9⟩
  rw [hw9]
  clear hw9 w9
  go_wp2_with fail
  refine (law9_num 0 _).mono ?_
  rintro e w9 ⟨rfl, hw9⟩
  rw [hw9]
  clear hw9 w9
  go_wp2_with fail
  refine (law9_num 34 _).mono ?_
  rintro e w9 ⟨rfl, hw9⟩
  rw [hw9]
  clear hw9 w9
  go_wp2_with fail
  go_ret
  exact ⟨rfl, HB.out⟩
end
end Go.Proofs.YtcdcjoofcbdilaaGreat

/-! Package acceptor: Stop, at an acceptor of a link. -/
namespace Go.Proofs.YtcdcjoofcbdilaaGreat
open Go.RowKit

section
variable {W : World} {L : Nat} {p : RgL} {s : RgS}
set_option maxHeartbeats 1600000 in
theorem acc_Stop {n d : Nat} {v v2 : Value} (h : Blk W n #[.pointer (some ⟨d, 0, none⟩), v, v2] 95) :
    Calls Tryz.prog 14 #[.pointer (some ⟨n, 0, none⟩)] W fun e w' => (∃ x, e = .returned x) ∧ Blk w' n #[.pointer (some ⟨d, 0, none⟩), .pointer none, v2] 95 ∧ Ext (fun b => b = n) W w' := by
  have c0 := h.cell (o := 0) rfl
  have HN : Calls Tryz.prog 30 #[.pointer (some ⟨n, 0, none⟩)] W fun e w' => e = .returned (.bool false) ∧ w' = W := by
    go_enter Tryz.func30, Tryz.ntmps30
    go_wp2_with fail
    go_ret
    exact ⟨rfl, rfl⟩
  have HN := hid HN
  have c1 := h.cell (o := 1) rfl
  have f1 := h.free 1
  have k1 := h.set (o := 1) (.pointer none)
  simp only [List.setIfInBounds_toArray, List.set_cons_zero, List.set_cons_succ] at k1
  have HF := hid (And.intro k1 ((Ext.refl (fun b => b = n) W).setCell (a := ⟨n, 1, none⟩) (.inl rfl) (.pointer none)))
  clear h c0 k1
  go_enter Tryz.func14, Tryz.ntmps14
  go_wp2_with fail
  refine HN.out.mono ?_
  rintro e Wx ⟨rfl, hw⟩
  rw [hw]
  clear hw Wx
  go_wp2_with fail
  go_end0
  exact ⟨⟨_, rfl⟩, HF.out⟩
/-- A node of a link is stopped. -/
theorem rg_Stop (h : RgAt W L p s) {i n d : Nat} {u u2 : Value} (hi : i < s.acs.length) (hv : p.vs[i]? = some (.pointer (some ⟨n, 0, none⟩))) (hown : p.ow i n) (hc : Blk W n #[.pointer (some ⟨d, 0, none⟩), u, u2] 95) :
    Calls Tryz.prog 14 #[.pointer (some ⟨n, 0, none⟩)] W fun e w' => (∃ x, e = .returned x) ∧ RgAt w' L p ⟨s.net, s.acs.set i none, s.base⟩ ∧ Ext (fun b => b = n) W w' := by
  refine (acc_Stop hc).mono ?_
  rintro e w' ⟨hx, hk, he⟩
  have hne : ∀ b, b ≠ n → ¬ b = n := fun b h => h
  have hon := h.owd i n hown
  refine ⟨hx, ⟨?_, h.net.ext he (fun b hb e => hon.2.1 (by have e2 : b = n := e; rw [← e2]; exact hb)), ?_, ?_, ?_, ?_, h.low, h.dis, h.base, h.owd, fun j b hb => Nat.lt_of_lt_of_le (h.lt j b hb) he.size⟩, he⟩
  · simp only [List.length_set]
    exact h.link.ext he (fun e => hon.1 e.symm)
  · obtain ⟨cs, hcs, hvs⟩ := h.arr
    exact ⟨cs, hcs.ext he (fun e => hon.2.2 e.symm), hvs⟩
  · simp only [List.length_set]; exact h.len
  · simp only [List.length_set]; exact h.few
  · intro j e9 hd
    simp only at hd
    by_cases hj : j = i
    · subst hj
      rw [List.getElem?_set_self hi] at hd
      cases hd
      exact ⟨_, hv, .inr ⟨n, _, _, rfl, hk, hown⟩⟩
    · rw [List.getElem?_set_ne (fun e => hj e.symm)] at hd
      obtain ⟨v, e1, e2⟩ := h.acs j e9 hd
      exact ⟨v, e1, e2.ext he (fun b hb e => hj (h.dis j i b hb (by have e3 : b = n := e; rw [e3]; exact hown)))⟩
end
/-- The first i of n are stopped. -/
def dnR (n i : Nat) : List Bool := List.replicate i true ++ List.replicate (n - i) false
theorem dnR_len {n i : Nat} (h : i ≤ n) : (dnR n i).length = n := by unfold dnR; simp; omega
theorem dnR_up {n i : Nat} : upA (dnR n i) = n - i := by unfold dnR upA; simp
theorem dnR_set {n i : Nat} (h : i < n) (X : Fs × St × Dk) : (mixA (dnR n i) X).set i none = mixA (dnR n (i + 1)) X := by
  unfold mixA dnR
  obtain ⟨m, hm⟩ : ∃ m, n - i = m + 1 := ⟨n - i - 1, by omega⟩
  rw [hm, show n - (i + 1) = m from by omega, List.map_append, List.map_append, List.map_replicate, List.map_replicate, List.map_replicate, List.replicate_succ, List.set_append_right _ _ (by simp)]
  simp only [List.length_replicate, Nat.sub_self, List.set_cons_zero, if_true]
  rw [List.replicate_succ', List.map_replicate]
  simp
end Go.Proofs.YtcdcjoofcbdilaaGreat
