import Derived.Test.YtbahjinlcbjikaaGreatMLit
import Derived.Test.YtbahjinlcbjikaaGreatQNt2
import Derived.Test.YtbahjinlcbjikaaGreatMap
/-! Package loglet: a link to nodes in memory. -/
namespace Go.Proofs.YtbahjinlcbjikaaGreat
open Go.RowKit

def NdAt (W : World) (v : Value) (own : Nat → Prop) : Nds → Prop
  | some (S, D) => ∃ n pv q, v = .pointer (some ⟨n, 0, none⟩) ∧ NodeAt W n pv q S D ∧ ∀ b, (b = n ∨ q.all b) → own b
  | none => v = .pointer none ∨ ∃ n pv, v = .pointer (some ⟨n, 0, none⟩) ∧ Blk W n #[pv, .pointer none] 99 ∧ own n
theorem NdAt.ext {fp : Nat → Prop} {W W' : World} {v : Value} {own : Nat → Prop} {d : Nds} (h : NdAt W v own d) (he : Ext fp W W') (hn : ∀ b, own b → ¬ fp b) : NdAt W' v own d := by
  match d, h with
  | some (S, D), h =>
    obtain ⟨n, pv, q, e, h1, h2⟩ := h
    exact ⟨n, pv, q, e, ⟨h1.cell.ext he (hn _ (h2 _ (.inl rfl))), h1.st.ext he (fun b hb hq => hn b (h2 b (.inr hq)) hb), h1.on, h1.out⟩, h2⟩
  | none, h =>
    rcases h with h | ⟨n, pv, e, h1, h2⟩
    · exact .inl h
    · exact .inr ⟨n, pv, e, h1.ext he (hn _ h2), h2⟩

structure LkP where
  q : NetP
  na : Nat
  cap : Nat
  vs : List Value
  ow : Nat → Nat → Prop
def LkP.all (p : LkP) (L : Nat) (b : Nat) : Prop := b = L ∨ p.q.all b ∨ b = p.na ∨ ∃ i, p.ow i b

structure LkAt (W : World) (L : Nat) (p : LkP) (s : LkS) : Prop where
  link : Blk W L #[.pointer (some ⟨p.q.N, 0, none⟩), .slice (some ⟨p.na, 0, none⟩) s.nds.length p.cap] 41
  net : NetAt W p.q s.net
  arr : ∃ cs, Blk W p.na cs 42 ∧ ∀ (i : Nat) v, p.vs[i]? = some v → cs[i]? = some v
  len : p.vs.length = s.nds.length
  few : s.nds.length ≤ 1000
  nds : ∀ (i : Nat) d, s.nds[i]? = some d → ∃ v, p.vs[i]? = some v ∧ NdAt W v (p.ow i) d
  dis : ∀ i j b, p.ow i b → p.ow j b → i = j
  base : L ≠ p.na ∧ ¬ p.q.all L ∧ ¬ p.q.all p.na
  owd : ∀ i b, p.ow i b → b ≠ L ∧ ¬ p.q.all b ∧ b ≠ p.na
  lt : ∀ i b, p.ow i b → b < W.heap.size

section
variable {W W' : World} {L : Nat} {p : LkP} {s : LkS}
theorem LkAt.size (h : LkAt W L p s) {b : Nat} (hb : p.all L b) : b < W.heap.size := by
  rcases hb with rfl | hb | rfl | ⟨i, hb⟩
  · exact h.link.lt
  · exact h.net.size hb
  · obtain ⟨_, hc, _⟩ := h.arr; exact hc.lt
  · exact h.lt i b hb
theorem LkAt.ext {fp : Nat → Prop} (h : LkAt W L p s) (he : Ext fp W W') (hn : ∀ b, fp b → ¬ p.all L b) : LkAt W' L p s where
  link := h.link.ext he (fun hf => hn _ hf (.inl rfl))
  net := h.net.ext he (fun b hb hf => hn b hf (.inr (.inl hb)))
  arr := by obtain ⟨cs, hc, hv⟩ := h.arr; exact ⟨cs, hc.ext he (fun hf => hn _ hf (.inr (.inr (.inl rfl)))), hv⟩
  len := h.len
  few := h.few
  nds := fun i d hd => by
    obtain ⟨v, h1, h2⟩ := h.nds i d hd
    exact ⟨v, h1, h2.ext he (fun b hb hf => hn b hf (.inr (.inr (.inr ⟨i, hb⟩))))⟩
  dis := h.dis
  base := h.base
  owd := h.owd
  lt := fun i b hb => Nat.lt_of_lt_of_le (h.lt i b hb) he.size
theorem LkAt.keep (h : LkAt W L p s) (hb : Below W.heap.size W W') : LkAt W' L p s := h.ext (fp := nofp) (Ext.ofBelow hb) (fun _ h => h.elim)

/-- A node was asked. -/
theorem LkAt.node (h : LkAt W L p s) {i n : Nat} {pv : Value} {q q' : StP} {S' : St} {D' : Dk} (hi : i < s.nds.length) (hv : p.vs[i]? = some (.pointer (some ⟨n, 0, none⟩))) (hown : ∀ b, (b = n ∨ q.all b) → p.ow i b)
    (h1 : NodeAt W' n pv q' S' D') (hw : Went q q' W.heap.size) (hx : Ext q.own W W') :
    ∃ p', LkAt W' L p' ⟨s.net, s.nds.set i (some (S', D'))⟩ ∧ p'.q = p.q ∧ p'.vs = p.vs ∧ (∀ b, p'.ow i b ↔ b = n ∨ q'.all b) ∧ (∀ b, p'.all L b → p.all L b ∨ W.heap.size ≤ b) := by
  have ho : ∀ b, (b = n ∨ q'.all b) → p.ow i b ∨ W.heap.size ≤ b := by
    rintro b (hb | hb)
    · exact .inl (hown b (.inl hb))
    · exact (hw.2.2.2.2 b hb).imp (fun h => hown b (.inr h)) id
  have hnot : ∀ b, q.own b → p.ow i b := fun b hb => hown b (.inr (.inl hb))
  have hlb : L < W.heap.size := h.link.lt
  have hab : p.na < W.heap.size := by obtain ⟨_, hc, _⟩ := h.arr; exact hc.lt
  refine ⟨⟨p.q, p.na, p.cap, p.vs, fun j b => if j = i then (b = n ∨ q'.all b) else p.ow j b⟩, ?_, rfl, rfl, fun b => by simp, ?_⟩
  · refine ⟨?_, ?_, ?_, ?_, ?_, ?_, ?_, h.base, ?_, ?_⟩
    · simp only [List.length_set]
      exact h.link.ext hx (fun hc => (h.owd i _ (hnot _ hc)).1 rfl)
    · exact h.net.ext hx (fun b hb hc => (h.owd i _ (hnot _ hc)).2.1 hb)
    · obtain ⟨cs, hc, hvs⟩ := h.arr
      exact ⟨cs, hc.ext hx (fun hc => (h.owd i _ (hnot _ hc)).2.2 rfl), hvs⟩
    · simp only [List.length_set]; exact h.len
    · simp only [List.length_set]; exact h.few
    · intro j d hd
      simp only at hd ⊢
      by_cases hj : j = i
      · subst hj
        rw [List.getElem?_set_self hi] at hd
        cases hd
        refine ⟨_, hv, n, pv, q', rfl, h1, fun b hb => ?_⟩
        simp only [if_true]
        exact hb
      · rw [List.getElem?_set_ne (fun e => hj e.symm)] at hd
        obtain ⟨v, e1, e2⟩ := h.nds j d hd
        refine ⟨v, e1, ?_⟩
        simp only [if_neg hj]
        exact e2.ext hx (fun b hb hc => hj (h.dis j i b hb (hnot b hc)))
    · intro j k b hj hk
      simp only at hj hk
      by_cases h1 : j = i
      · by_cases h2 : k = i
        · rw [h1, h2]
        · rw [if_pos h1] at hj
          rw [if_neg h2] at hk
          rcases ho b hj with h3 | h3
          · exact absurd (h.dis _ _ b hk h3) h2
          · have := h.lt k b hk; omega
      · rw [if_neg h1] at hj
        by_cases h2 : k = i
        · rw [if_pos h2] at hk
          rcases ho b hk with h3 | h3
          · exact absurd (h.dis _ _ b hj h3) h1
          · have := h.lt j b hj; omega
        · rw [if_neg h2] at hk
          exact h.dis j k b hj hk
    · intro j b hj
      simp only at hj ⊢
      by_cases h1 : j = i
      · rw [if_pos h1] at hj
        rcases ho b hj with h3 | h3
        · exact h.owd i b h3
        · exact ⟨by omega, fun hc => by have := h.net.size hc; omega, by omega⟩
      · rw [if_neg h1] at hj
        exact h.owd j b hj
    · intro j b hj
      simp only at hj
      by_cases h2 : j = i
      · rw [if_pos h2] at hj
        rcases hj with rfl | hj
        · exact h1.cell.lt
        · exact h1.st.size hj
      · rw [if_neg h2] at hj
        exact Nat.lt_of_lt_of_le (h.lt j b hj) hx.size
  · rintro b (hb | hb | hb | ⟨j, hb⟩)
    · exact .inl (.inl hb)
    · exact .inl (.inr (.inl hb))
    · exact .inl (.inr (.inr (.inl hb)))
    · simp only at hb
      by_cases h2 : j = i
      · rw [if_pos h2] at hb
        exact (ho b hb).imp (fun h => .inr (.inr (.inr ⟨i, h⟩))) id
      · rw [if_neg h2] at hb
        exact .inl (.inr (.inr (.inr ⟨j, hb⟩)))

/-- The net was turned. -/
theorem LkAt.netted (h : LkAt W L p s) {q' : NetP} {n' : NetS} (h1 : NetAt W' q' n') (hN : q'.N = p.q.N) (hq : ∀ b, q'.all b → p.q.all b ∨ W.heap.size ≤ b) (hx : Ext p.q.all W W') :
    LkAt W' L ⟨q', p.na, p.cap, p.vs, p.ow⟩ ⟨n', s.nds⟩ ∧ (∀ b, (⟨q', p.na, p.cap, p.vs, p.ow⟩ : LkP).all L b → p.all L b ∨ W.heap.size ≤ b) := by
  have hlb : L < W.heap.size := h.link.lt
  have hab : p.na < W.heap.size := by obtain ⟨_, hc, _⟩ := h.arr; exact hc.lt
  refine ⟨⟨?_, h1, ?_, h.len, h.few, ?_, h.dis, ⟨h.base.1, fun hc => ?_, fun hc => ?_⟩, fun i b hb => ⟨(h.owd i b hb).1, fun hc => ?_, (h.owd i b hb).2.2⟩, fun i b hb => Nat.lt_of_lt_of_le (h.lt i b hb) hx.size⟩, ?_⟩
  · show Blk W' L #[.pointer (some ⟨q'.N, 0, none⟩), .slice (some ⟨p.na, 0, none⟩) s.nds.length p.cap] 41
    rw [hN]
    exact h.link.ext hx h.base.2.1
  · obtain ⟨cs, hc, hvs⟩ := h.arr
    exact ⟨cs, hc.ext hx h.base.2.2, hvs⟩
  · intro i d hd
    obtain ⟨v, e1, e2⟩ := h.nds i d hd
    exact ⟨v, e1, e2.ext hx (fun b hb hc => (h.owd i b hb).2.1 hc)⟩
  · exact (hq L hc).elim h.base.2.1 (fun h => by omega)
  · exact (hq p.na hc).elim h.base.2.2 (fun h => by omega)
  · exact (hq b hc).elim (h.owd i b hb).2.1 (fun h9 => by have := h.lt i b hb; omega)
  · rintro b (hb | hb | hb | ⟨j, hb⟩)
    · exact .inl (.inl hb)
    · exact (hq b hb).imp (fun h => .inr (.inl h)) id
    · exact .inl (.inr (.inr (.inl hb)))
    · exact .inl (.inr (.inr (.inr ⟨j, hb⟩)))
end
end Go.Proofs.YtbahjinlcbjikaaGreat

/-! A map with int keys as a function from keys to values. No program is named here. -/
namespace Go.Proofs.YtbahjinlcbjikaaGreat
open Go.RowKit

theorem mget_mput {K : Type} [DecidableEq K] (es : List (Ent K)) (k j : K) (v : Value) (c : Nat) : mget (mput es k v c) j = if j = k then some v else mget es j := by
  unfold mput
  split
  · rename_i h
    have hc : ((fun e : Ent K => decide (j = e.k)) ∘ (fun e : Ent K => if k = e.k then { e with v := v } else e)) = (fun e => decide (j = e.k)) := by
      funext e
      simp only [Function.comp]
      split <;> rfl
    unfold mget
    rw [List.find?_map, hc]
    cases hf : es.find? (fun e => decide (j = e.k)) with
    | none =>
      rw [List.find?_eq_none] at hf
      have hne : j ≠ k := by
        rintro rfl
        obtain ⟨e, he, h1⟩ := List.any_eq_true.1 h
        exact hf e he h1
      rw [if_neg hne]
      rfl
    | some e =>
      have he : j = e.k := by simpa using List.find?_some hf
      by_cases hyx : j = k
      · rw [if_pos hyx]
        subst hyx
        simp [he]
      · rw [if_neg hyx]
        have : k ≠ e.k := fun h => hyx (he.trans h.symm)
        simp [this]
  · rename_i h
    unfold mget
    rw [List.find?_append]
    by_cases hyx : j = k
    · rw [if_pos hyx]
      subst hyx
      have hn : es.find? (fun e => decide (j = e.k)) = none := by
        rw [List.find?_eq_none]
        intro e he hd
        exact h (List.any_eq_true.2 ⟨e, he, hd⟩)
      rw [hn]
      simp
    · rw [if_neg hyx]
      have : [({ k := k, v := v, born := c } : Ent K)].find? (fun e : Ent K => decide (j = e.k)) = none := by simp [hyx]
      rw [this, Option.or_none]

def TabAt (W : World) (m : Nat) (z : Value) (f : Int → Value) : Prop := ∃ es c, MapAt W m encI es c ∧ ∀ k, (mget es k).getD z = f k
section
variable {P : Program} {W W' : World} {m : Nat} {z : Value} {f : Int → Value} {M T E : TypeId}
theorem TabAt.new (W : World) (z : Value) : TabAt (W.alloc (.map #[] 0)) W.heap.size z (fun _ => z) := ⟨[], 0, MapAt.new W encI, fun _ => rfl⟩
theorem TabAt.ext {fp : Nat → Prop} (h : TabAt W m z f) (he : Ext fp W W') (hn : ¬ fp m) : TabAt W' m z f := by
  obtain ⟨es, c, h1, h2⟩ := h
  exact ⟨es, c, h1.ext he hn, h2⟩
theorem TabAt.keep (h : TabAt W m z f) (hb : Below W.heap.size W W') : TabAt W' m z f := h.ext (fp := nofp) (Ext.ofBelow hb) (fun h => h)
theorem TabAt.of (h : TabAt W m z f) {g : Int → Value} (he : ∀ k, f k = g k) : TabAt W m z g := by
  obtain ⟨es, c, h1, h2⟩ := h
  exact ⟨es, c, h1, fun k => (h2 k).trans (he k)⟩
theorem TabAt.lt (h : TabAt W m z f) : m < W.heap.size := by
  obtain ⟨es, c, h1, _⟩ := h
  exact h1.lt
theorem TabAt.look (h : TabAt W m z f) (hM : P.underlying M = some (.map T E)) (hT : P.underlying T = some (.int .i64)) (hz : ∀ w, (zeroValue E).run P w = .ok z w) (k : Int) :
    (Instr.lookup M (.map (some m)) (.int .i64 k) false).run P W = .ok (f k) W := by
  obtain ⟨es, c, h1, h2⟩ := h
  have := run_lookup_raw (P := P) (keyLaw_int hT) h1 hM k hz false
  rw [← h2 k]
  exact this
theorem TabAt.put (h : TabAt W m z f) (hM : P.underlying M = some (.map T E)) (hT : P.underlying T = some (.int .i64)) (k : Int) (v : Value) :
    ∃ W', (Instr.mapUpdate M (.map (some m)) (.int .i64 k) v).run P W = .ok () W' ∧ TabAt W' m z (fun j => if j = k then v else f j) ∧ Ext (fun b => b = m) W W' := by
  obtain ⟨es, c, h1, h2⟩ := h
  obtain ⟨W', q1, q2, q3⟩ := run_update_raw (P := P) (keyLaw_int hT) h1 hM k v
  refine ⟨W', q1, ⟨_, _, q2, fun j => ?_⟩, q3⟩
  rw [mget_mput]
  show _ = if j = k then v else f j
  by_cases hj : j = k
  · rw [if_pos hj, if_pos hj]; rfl
  · rw [if_neg hj, if_neg hj]; exact h2 j
end
end Go.Proofs.YtbahjinlcbjikaaGreat

/-! Package loglet: Quorum, Check. -/
namespace Go.Proofs.YtbahjinlcbjikaaGreat
open Go.RowKit

section
variable {W : World}
set_option maxRecDepth 100000 in
set_option maxHeartbeats 800000 in
theorem log_Quorum (id : Int) (a : Option Addr) (n c : Nat) (hn : n ≤ 9223372036854775806) :
    Calls Tryz.prog 9 #[.agg #[.int .i64 id, .slice a n c]] W fun e w' => e = .returned (.int .i64 ((n / 2 + 1 : Nat) : Int)) ∧ Below W.heap.size W w' := by
  have h1 : (n : Int) / 2 = ((n / 2 : Nat) : Int) := by omega
  have h2 : Int.tdiv (n : Int) 2 = ((n / 2 : Nat) : Int) := by rw [Int.tdiv_eq_ediv_of_nonneg (by omega)]; exact h1
  have h5 : n / 2 ≤ 4611686018427387903 := by omega
  generalize n / 2 = q at *
  have h3 : wrap64 ((q : Int) + 1) = (q : Int) + 1 := by unfold wrap64; omega
  clear hn
  go_enter Tryz.func9, Tryz.ntmps9
  go_wp2_with fail
  go_ret
  exact ⟨by simp, (Below.refl _ _).alloc (Nat.le_refl _) _⟩

def okTo (nd : Int) (l : List Int) : Bool := decide ((∀ x ∈ l, 0 ≤ x ∧ x < nd) ∧ l.Nodup)
theorem okTo_succ {nd : Int} {l : List Int} {k : Nat} {x : Int} (hx : l[k]? = some x) : okTo nd (l.take (k + 1)) = (okTo nd (l.take k) && (decide (x ≥ 0) && (decide (x < nd) && !decide (x ∈ l.take k)))) := by
  have hlt : k < l.length := (List.getElem?_eq_some_iff.1 hx).1
  have ht : l.take (k + 1) = l.take k ++ [x] := by
    rw [List.take_add_one, hx]; rfl
  rw [ht]
  unfold okTo
  rw [Bool.eq_iff_iff]
  simp only [List.nodup_append, List.mem_append, List.mem_singleton, Bool.and_eq_true, decide_eq_true_eq, Bool.not_eq_true', decide_eq_false_iff_not]
  constructor
  · rintro ⟨h1, h2, _, h3⟩
    have hb := h1 x (.inr rfl)
    exact ⟨⟨fun y hy => h1 y (.inl hy), h2⟩, hb.1, hb.2, fun hm => h3 x hm x rfl rfl⟩
  · rintro ⟨⟨h1, h2⟩, h3, h4, h5⟩
    refine ⟨fun y hy => ?_, h2, by simp, fun y hy z hz e => ?_⟩
    · rcases hy with hy | rfl
      · exact h1 y hy
      · exact ⟨h3, h4⟩
    · subst hz
      subst e
      exact h5 hy
theorem okTo_nil (nd : Int) : okTo nd [] = true := by simp [okTo]
theorem mem_take_succ {l : List Int} {k : Nat} {x y : Int} (hx : l[k]? = some x) : y ∈ l.take (k + 1) ↔ (y = x ∨ y ∈ l.take k) := by
  rw [List.take_add_one, hx]
  simp only [Option.toList_some, List.mem_append, List.mem_singleton]
  exact or_comm

def checkE (b : Bool) : Int := if b then 0 else 1
theorem check_base (id : Int) (l : List Int) (nd : Int) : checkB ⟨id, l⟩ nd = (decide (0 ≤ id ∧ id < 281474976710656 ∧ 1 ≤ l.length ∧ l.length ≤ 9) && okTo nd l) := by
  unfold checkB okTo
  rw [Bool.eq_iff_iff]
  simp only [Bool.and_eq_true, decide_eq_true_eq]
  constructor
  · rintro ⟨h1, h2, h3, h4, h5, h6⟩; exact ⟨⟨h1, h2, h3, h4⟩, h5, h6⟩
  · rintro ⟨⟨h1, h2, h3, h4⟩, h5, h6⟩; exact ⟨h1, h2, h3, h4, h5, h6⟩
/-- What the test of the id and of the nodes' number gives, in the walk's spelling. -/
theorem check_cases (id : Int) (n : Nat) {base : Bool} (h : decide (0 ≤ id ∧ id < 281474976710656 ∧ 1 ≤ n ∧ n ≤ 9) = base) :
    (decide (id ≥ 0) = false ∧ base = false) ∨ (decide (id ≥ 0) = true ∧ decide (id < 281474976710656) = false ∧ base = false) ∨
    (decide (id ≥ 0) = true ∧ decide (id < 281474976710656) = true ∧ decide ((n : Int) ≥ 1) = false ∧ base = false) ∨
    (decide (id ≥ 0) = true ∧ decide (id < 281474976710656) = true ∧ decide ((n : Int) ≥ 1) = true ∧ decide ((n : Int) ≤ 9) = base) := by
  subst h
  by_cases h1 : 0 ≤ id
  · by_cases h2 : id < 281474976710656
    · by_cases h3 : 1 ≤ n
      · refine .inr (.inr (.inr ⟨decide_eq_true (by omega), decide_eq_true (by omega), decide_eq_true (by omega), ?_⟩))
        rw [Bool.eq_iff_iff]
        simp only [decide_eq_true_eq]
        omega
      · exact .inr (.inr (.inl ⟨decide_eq_true (by omega), decide_eq_true (by omega), decide_eq_false (by omega), decide_eq_false (by omega)⟩))
    · exact .inr (.inl ⟨decide_eq_true (by omega), decide_eq_false (by omega), decide_eq_false (by omega)⟩)
  · exact .inl ⟨decide_eq_false (by omega), decide_eq_false (by omega)⟩
end
end Go.Proofs.YtbahjinlcbjikaaGreat
