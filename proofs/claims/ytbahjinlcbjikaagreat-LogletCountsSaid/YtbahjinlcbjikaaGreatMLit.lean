import Derived.Test.YtbahjinlcbjikaaGreatMLgP
import Derived.Test.YtbahjinlcbjikaaGreatRows
import Derived.Test.YtbahjinlcbjikaaGreatBase
import Derived.ProofKit
import Derived.OpenShut
import Derived.Test.YtbahjinlcbjikaaGreatMDisk
import Derived.Lib.ConvBytes
/-! Packages net and loglet: a link to nodes in memory; nothing late. -/
namespace Go.Proofs.YtbahjinlcbjikaaGreat
open Go.RowKit

abbrev iv (z : Int) : Value := .int .i64 z
/-- A row of ints that starts at its block's head. -/
abbrev OwnI (w : World) (base : Nat) (t : TypeId) (v : Value) (l : List Int) : Prop := w.ownsRow base t 1 v l.length (l.map iv)
theorem OwnI.ext {fp : Nat → Prop} {w w' : World} {base : Nat} {t : TypeId} {v : Value} {l : List Int} (h : OwnI w base t v l) (he : Ext fp w w') (hn : ∀ k, v.ownBlock = some k → ¬ fp k) : OwnI w' base t v l := by
  refine ⟨h.1, h.2.imp id ?_⟩
  rintro ⟨g, cap, cur, e, h1, h2, r⟩
  refine ⟨g, cap, cur, e, h1, (he.block g (Array.getElem?_eq_some_iff.1 h2).1 (hn g (by rw [e]; rfl))).trans h2, r⟩
theorem OwnI.lt {w : World} {base : Nat} {t : TypeId} {v : Value} {l : List Int} (h : OwnI w base t v l) : ∀ k, v.ownBlock = some k → k < w.heap.size := fun k hk => (World.ownsRow.lt h k hk).2

def NdAt (W : World) (v : Value) (own : Nat → Prop) : Nds → Prop
  | some (S, D) => ∃ n pv q, v = .pointer (some ⟨n, 0, none⟩) ∧ NodeAt W n pv q S D ∧ ∀ b, (b = n ∨ q.all b) → own b
  | none => v = .pointer none ∨ ∃ n pv, v = .pointer (some ⟨n, 0, none⟩) ∧ Blk W n #[pv, .pointer none] 99 ∧ own n
theorem NdAt.ext {fp : Nat → Prop} {W W' : World} {v : Value} {own : Nat → Prop} {d : Nds} (h : NdAt W v own d) (he : Ext fp W W') (hn : ∀ b, own b → ¬ fp b) : NdAt W' v own d := by
  match d, h with
  | some (S, D), h =>
    obtain ⟨n, pv, q, e, h1, h2⟩ := h
    exact ⟨n, pv, q, e, ⟨h1.cell.ext he (hn _ (h2 _ (.inl rfl))), h1.st.ext he (fun b hb hq => hn b (h2 b (.inr hq)) hb), h1.on, h1.out⟩, h2⟩
  | none, h =>
    rcases h with h | ⟨n, pv, e, h1, h2⟩
    · exact .inl h
    · exact .inr ⟨n, pv, e, h1.ext he (hn _ h2), h2⟩

structure LkP where
  N : Nat
  lv : Value
  tv : Value
  na : Nat
  cap : Nat
  vs : List Value
  ow : Nat → Nat → Prop
def LkP.all (p : LkP) (L : Nat) (b : Nat) : Prop := b = L ∨ b = p.N ∨ b = p.na ∨ p.lv.ownBlock = some b ∨ ∃ i, p.ow i b

structure LkAt (W : World) (L : Nat) (p : LkP) (s : LkS) : Prop where
  link : Blk W L #[.pointer (some ⟨p.N, 0, none⟩), .slice (some ⟨p.na, 0, none⟩) s.nds.length p.cap] 41
  net : Blk W p.N #[p.lv, p.tv, .bool true] 64
  luck : OwnI W 0 3 p.lv s.luck
  arr : ∃ cs, Blk W p.na cs 42 ∧ ∀ (i : Nat) v, p.vs[i]? = some v → cs[i]? = some v
  len : p.vs.length = s.nds.length
  few : s.nds.length ≤ 1000
  nds : ∀ (i : Nat) d, s.nds[i]? = some d → ∃ v, p.vs[i]? = some v ∧ NdAt W v (p.ow i) d
  dis : ∀ i j b, p.ow i b → p.ow j b → i = j
  base : L ≠ p.N ∧ L ≠ p.na ∧ p.N ≠ p.na
  lvd : ∀ g, p.lv.ownBlock = some g → g ≠ L ∧ g ≠ p.N ∧ g ≠ p.na ∧ ∀ i, ¬ p.ow i g
  owd : ∀ i b, p.ow i b → b ≠ L ∧ b ≠ p.N ∧ b ≠ p.na
  lt : ∀ i b, p.ow i b → b < W.heap.size

section
variable {W W' : World} {L : Nat} {p : LkP} {s : LkS}
theorem LkAt.size (h : LkAt W L p s) {b : Nat} (hb : p.all L b) : b < W.heap.size := by
  rcases hb with rfl | rfl | rfl | hb | ⟨i, hb⟩
  · exact h.link.lt
  · exact h.net.lt
  · obtain ⟨_, hc, _⟩ := h.arr; exact hc.lt
  · exact h.luck.lt b hb
  · exact h.lt i b hb
theorem LkAt.ext {fp : Nat → Prop} (h : LkAt W L p s) (he : Ext fp W W') (hn : ∀ b, fp b → ¬ p.all L b) : LkAt W' L p s where
  link := h.link.ext he (fun hf => hn _ hf (.inl rfl))
  net := h.net.ext he (fun hf => hn _ hf (.inr (.inl rfl)))
  luck := h.luck.ext he (fun k hk hf => hn k hf (.inr (.inr (.inr (.inl hk)))))
  arr := by obtain ⟨cs, hc, hv⟩ := h.arr; exact ⟨cs, hc.ext he (fun hf => hn _ hf (.inr (.inr (.inl rfl)))), hv⟩
  len := h.len
  few := h.few
  nds := fun i d hd => by
    obtain ⟨v, h1, h2⟩ := h.nds i d hd
    exact ⟨v, h1, h2.ext he (fun b hb hf => hn b hf (.inr (.inr (.inr (.inr ⟨i, hb⟩)))))⟩
  dis := h.dis
  base := h.base
  lvd := h.lvd
  owd := h.owd
  lt := fun i b hb => Nat.lt_of_lt_of_le (h.lt i b hb) he.size
theorem LkAt.keep (h : LkAt W L p s) (hb : Below W.heap.size W W') : LkAt W' L p s := h.ext (fp := nofp) (Ext.ofBelow hb) (fun _ h => h.elim)

/-- A node was asked. -/
theorem LkAt.node (h : LkAt W L p s) {i n : Nat} {pv : Value} {q q' : StP} {S' : St} {D' : Dk} (hi : i < s.nds.length) (hv : p.vs[i]? = some (.pointer (some ⟨n, 0, none⟩))) (hown : ∀ b, (b = n ∨ q.all b) → p.ow i b)
    (h1 : NodeAt W' n pv q' S' D') (hw : Went q q' W.heap.size) (hx : Ext q.own W W') :
    ∃ p', LkAt W' L p' ⟨s.luck, s.nds.set i (some (S', D'))⟩ ∧ p'.N = p.N ∧ p'.lv = p.lv ∧ p'.vs = p.vs ∧ (∀ b, p'.ow i b ↔ b = n ∨ q'.all b) ∧ (∀ b, p'.all L b → p.all L b ∨ W.heap.size ≤ b) := by
  have ho : ∀ b, (b = n ∨ q'.all b) → p.ow i b ∨ W.heap.size ≤ b := by
    rintro b (hb | hb)
    · exact .inl (hown b (.inl hb))
    · exact (hw.2.2.2.2 b hb).imp (fun h => hown b (.inr h)) id
  have hnot : ∀ b, q.own b → p.ow i b := fun b hb => hown b (.inr (.inl hb))
  have hlb : L < W.heap.size := h.link.lt
  have hNb : p.N < W.heap.size := h.net.lt
  have hab : p.na < W.heap.size := by obtain ⟨_, hc, _⟩ := h.arr; exact hc.lt
  refine ⟨⟨p.N, p.lv, p.tv, p.na, p.cap, p.vs, fun j b => if j = i then (b = n ∨ q'.all b) else p.ow j b⟩, ?_, rfl, rfl, rfl, fun b => by simp, ?_⟩
  · refine ⟨?_, ?_, ?_, ?_, ?_, ?_, ?_, ?_, h.base, ?_, ?_, ?_⟩
    · simp only [List.length_set]
      exact h.link.ext hx (fun hc => (h.owd i _ (hnot _ hc)).1 rfl)
    · exact h.net.ext hx (fun hc => (h.owd i _ (hnot _ hc)).2.1 rfl)
    · exact h.luck.ext hx (fun k hk hc => (h.lvd k hk).2.2.2 i (hnot _ hc))
    · obtain ⟨cs, hc, hvs⟩ := h.arr
      exact ⟨cs, hc.ext hx (fun hc => (h.owd i _ (hnot _ hc)).2.2 rfl), hvs⟩
    · simp only [List.length_set]; exact h.len
    · simp only [List.length_set]; exact h.few
    · intro j d hd
      simp only at hd ⊢
      by_cases hj : j = i
      · subst hj
        rw [List.getElem?_set_self hi] at hd
        cases hd
        refine ⟨_, hv, n, pv, q', rfl, h1, fun b hb => ?_⟩
        simp only [if_true]
        exact hb
      · rw [List.getElem?_set_ne (fun e => hj e.symm)] at hd
        obtain ⟨v, e1, e2⟩ := h.nds j d hd
        refine ⟨v, e1, ?_⟩
        simp only [if_neg hj]
        exact e2.ext hx (fun b hb hc => hj (h.dis j i b hb (hnot b hc)))
    · intro j k b hj hk
      simp only at hj hk
      by_cases h1 : j = i
      · by_cases h2 : k = i
        · rw [h1, h2]
        · rw [if_pos h1] at hj
          rw [if_neg h2] at hk
          rcases ho b hj with h3 | h3
          · exact absurd (h.dis _ _ b hk h3) h2
          · have := h.lt k b hk; omega
      · rw [if_neg h1] at hj
        by_cases h2 : k = i
        · rw [if_pos h2] at hk
          rcases ho b hk with h3 | h3
          · exact absurd (h.dis _ _ b hj h3) h1
          · have := h.lt j b hj; omega
        · rw [if_neg h2] at hk
          exact h.dis j k b hj hk
    · intro g hg
      have hl := h.lvd g hg
      refine ⟨hl.1, hl.2.1, hl.2.2.1, fun j hj => ?_⟩
      simp only at hj
      by_cases h1 : j = i
      · rw [if_pos h1] at hj
        rcases ho g hj with h3 | h3
        · exact hl.2.2.2 i h3
        · have := h.luck.lt g hg; omega
      · rw [if_neg h1] at hj
        exact hl.2.2.2 j hj
    · intro j b hj
      simp only at hj ⊢
      by_cases h1 : j = i
      · rw [if_pos h1] at hj
        rcases ho b hj with h3 | h3
        · exact h.owd i b h3
        · exact ⟨by omega, by omega, by omega⟩
      · rw [if_neg h1] at hj
        exact h.owd j b hj
    · intro j b hj
      simp only at hj
      by_cases h2 : j = i
      · rw [if_pos h2] at hj
        rcases hj with rfl | hj
        · exact h1.cell.lt
        · exact h1.st.size hj
      · rw [if_neg h2] at hj
        exact Nat.lt_of_lt_of_le (h.lt j b hj) hx.size
  · rintro b (hb | hb | hb | hb | ⟨j, hb⟩)
    · exact .inl (.inl hb)
    · exact .inl (.inr (.inl hb))
    · exact .inl (.inr (.inr (.inl hb)))
    · exact .inl (.inr (.inr (.inr (.inl hb))))
    · simp only at hb
      by_cases h2 : j = i
      · rw [if_pos h2] at hb
        exact (ho b hb).imp (fun h => .inr (.inr (.inr (.inr ⟨i, h⟩)))) id
      · rw [if_neg h2] at hb
        exact .inl (.inr (.inr (.inr (.inr ⟨j, hb⟩))))

/-- Luck was turned. -/
theorem LkAt.lucky (h : LkAt W L p s) {lv' : Value} {l' : List Int} (h1 : Blk W' p.N #[lv', p.tv, .bool true] 64) (h2 : OwnI W' 0 3 lv' l') (hl : ∀ g, lv'.ownBlock = some g → p.lv.ownBlock = some g ∨ W.heap.size ≤ g)
    (hx : Ext (fun b => b = p.N ∨ p.lv.ownBlock = some b) W W') :
    LkAt W' L ⟨p.N, lv', p.tv, p.na, p.cap, p.vs, p.ow⟩ ⟨l', s.nds⟩ ∧ (∀ b, (⟨p.N, lv', p.tv, p.na, p.cap, p.vs, p.ow⟩ : LkP).all L b → p.all L b ∨ W.heap.size ≤ b) := by
  have hlb : L < W.heap.size := h.link.lt
  have hNb : p.N < W.heap.size := h.net.lt
  have hab : p.na < W.heap.size := by obtain ⟨_, hc, _⟩ := h.arr; exact hc.lt
  refine ⟨⟨?_, h1, h2, ?_, h.len, h.few, ?_, h.dis, h.base, ?_, h.owd, fun i b hb => Nat.lt_of_lt_of_le (h.lt i b hb) hx.size⟩, ?_⟩
  · exact h.link.ext hx (fun hc => hc.elim h.base.1 (fun hc => (h.lvd _ hc).1 rfl))
  · obtain ⟨cs, hc, hvs⟩ := h.arr
    exact ⟨cs, hc.ext hx (fun hc => hc.elim (fun e => h.base.2.2 e.symm) (fun hc => (h.lvd _ hc).2.2.1 rfl)), hvs⟩
  · intro i d hd
    obtain ⟨v, e1, e2⟩ := h.nds i d hd
    exact ⟨v, e1, e2.ext hx (fun b hb hc => hc.elim (fun e => (h.owd i b hb).2.1 e) (fun hc => (h.lvd b hc).2.2.2 i hb))⟩
  · intro g hg
    rcases hl g hg with h3 | h3
    · exact h.lvd g h3
    · exact ⟨by omega, by show g ≠ p.N; omega, by show g ≠ p.na; omega, fun i hi => by have := h.lt i g hi; omega⟩
  · rintro b (hb | hb | hb | hb | ⟨j, hb⟩)
    · exact .inl (.inl hb)
    · exact .inl (.inr (.inl hb))
    · exact .inl (.inr (.inr (.inl hb)))
    · exact (hl b hb).imp (fun h => .inr (.inr (.inr (.inl h)))) id
    · exact .inl (.inr (.inr (.inr (.inr ⟨j, hb⟩))))
end
end Go.Proofs.YtbahjinlcbjikaaGreat

/-! From a law's contract (it returns true; nothing that was there has turned) to the row. -/
namespace Go.Proofs.YtbahjinlcbjikaaGreat
open Go.ChangeShapes Go.WideShapes Go.ChangeAt Go.RowKit

theorem law_own : ownKnob Tryz.prog.godebug = none := by kernel_rfl
theorem law_laid : laidOutB Tryz.prog = true := by kernel_rfl
theorem cells_int : Tryz.prog.cellsOf 3 = 1 := by kernel_rfl

theorem all_stay {H : Type} {enc : TypeId × Value → H} {W W' : World} (hb : Below W.heap.size W W') : ∀ (ts : List TypeId) (vs : List Value) (ds : List (DataW H)) (ps : List MemPlace),
    (∀ t ∈ ts, Tryz.prog.readableRec t = true ∧ t < Tryz.prog.types.size) → DataW.TrodAll enc Tryz.prog W 0 (fun _ => true) true ts vs ds ps → (∀ x ∈ ps, x.block < W.heap.size) →
    DataW.TrodAll enc Tryz.prog W' 0 (fun b => decide (b < W.heap.size)) true ts vs ds ps
  | [], vs, ds, ps, _, h, _ => by
    obtain ⟨rfl, rfl, rfl⟩ := trodAll_nil h
    exact trodAll_mk0
  | t :: ts, vs, ds, ps, hr, h, hlt => by
    obtain ⟨v, vs', d, ds', p, q, rfl, rfl, rfl, h1, h2⟩ := trodAll_cons h
    have ht := hr t List.mem_cons_self
    refine trodAll_cons_mk (Below.trod law_laid ht.1 ht.2 h1 hb (fun x hx => hlt x (List.mem_append_left _ hx))) ?_
    exact all_stay hb ts vs' ds' q (fun t' h' => hr t' (List.mem_cons_of_mem _ h')) h2 (fun x hx => hlt x (List.mem_append_right _ hx))

theorem law_post {H : Type} {enc : TypeId × Value → H} {s : ChangeSpec} {f : Func} {W W' : World} {args : Array Value} {ds gs : List (DataW H)} {before : List MemPlace} (hv : s.vars = []) (hrt : f.resultTypes = #[4])
    (hr : ∀ t ∈ f.params.toList, Tryz.prog.readableRec t = true ∧ t < Tryz.prog.types.size) (hW : DataW.Whole enc Tryz.prog f.params.toList s.vars false W args.toList ds gs before)
    (hfn : s.fn H (ds ++ gs) = { results := [.lit (.bool true)], args := ds }) (hb : Below W.heap.size W W') : s.post enc Tryz.prog f false true false false W args (.bool true) W' := by
  have hW' := hW
  obtain ⟨p, q, hA, hV, rfl, _, _⟩ := hW
  rw [hv] at hV
  obtain ⟨rfl, rfl⟩ := trodVars_none hV
  refine ⟨ds, [], p ++ [], [], p, [], hW', ?_, ?_, ?_, hb.frame _, fun h => by cases h⟩
  · rw [hfn, hrt]
    exact trodAll_mk1 (shut_bool Tryz.underlying4 _)
  · rw [hfn]
    exact all_stay hb _ _ _ _ hr hA (fun x hx => hW'.lt x (List.mem_append_left _ hx))
  · rw [hfn, hv]
    rfl

set_option maxRecDepth 100000 in
theorem wf_i64_bounds {n : Int} (h : (Lit.int .i64 n).wf = true) : -9223372036854775808 ≤ n ∧ n ≤ 9223372036854775807 := by
  have e1 : IntKind.i64.min = -9223372036854775808 := rfl
  have e2 : IntKind.i64.max = 9223372036854775807 := rfl
  simpa [Lit.wf, e1, e2] using h

/-- Ints that can be read from a slice on. -/
def Is (w : World) (v : Value) (l : List Int) : Prop := ∃ a c, v = .slice a l.length c ∧ ∀ i x, l[i]? = some x → ∃ g o, a = some ⟨g, o, none⟩ ∧ w.cell? ⟨g, o + i, none⟩ = some (.int .i64 x)
theorem Is.keep {w w' : World} {v : Value} {l : List Int} (h : Is w v l) (hb : Below w.heap.size w w') : Is w' v l := by
  obtain ⟨a, c, rfl, hr⟩ := h
  refine ⟨a, c, rfl, fun i x hi => ?_⟩
  obtain ⟨g, o, e, hc⟩ := hr i x hi
  exact ⟨g, o, e, by rw [hb.cell (World.block_lt_of_cell? w _ hc)]; exact hc⟩

theorem add_spot {w : World} {a : Addr} {v : Value} (h : w.cell? (a.add 0) = some v) : a.spot = none := by
  simpa [Addr.add] using World.cell?_spot h

set_option maxRecDepth 100000 in
theorem open_Is {H : Type} {enc : TypeId × Value → H} {W : World} {v : Value} {d : DataW H} {p : List MemPlace} {t : TypeId} (ht : Tryz.prog.underlying t = some (.slice 3)) (hval : Value.okWide Tryz.prog W .any 0 t v)
    (h : DataW.Trod enc Tryz.prog W 0 (fun _ => true) true t v d p) : ∃ l, Is W v l ∧ l.length ≤ 9223372036854775807 ∧ ∀ x ∈ l, -9223372036854775808 ≤ x ∧ x ≤ 9223372036854775807 := by
  obtain ⟨a0, len, cap, rfl⟩ := okWide_slice ht hval
  obtain ⟨fuel, hf⟩ := h
  rcases open_ints ht Tryz.underlying3 cells_int hf with ⟨hcs, hx⟩ | ⟨a, len', cap', zs, hcs, _, hl, hm, hz, hx, hcell, hwz⟩
  · simp [Value.cells] at hcs
    obtain ⟨rfl, rfl, rfl⟩ := hcs
    exact ⟨[], ⟨none, 0, rfl, fun i x h => by simp at h⟩, by simp, fun x h => by simp at h⟩
  · simp [Value.cells] at hcs
    obtain ⟨rfl, rfl, rfl⟩ := hcs
    simp only [if_true] at hz
    have hlen : (zs.take len).length = len := by simp; omega
    refine ⟨zs.take len, ⟨some a, cap, by rw [hlen], fun i x hi => ?_⟩, ?_, fun x hx => wf_i64_bounds (hwz x (List.mem_of_mem_take hx))⟩
    · rw [List.getElem?_take] at hi
      split at hi
      · have hlt : i < zs.length := by omega
        have hc := hcell i hlt
        have ha := add_spot (hcell 0 (by omega))
        obtain ⟨b, o, s⟩ := a
        simp only at ha
        subst ha
        rw [add_plain] at hc
        refine ⟨b, o, rfl, ?_⟩
        rw [hc, List.getD_eq_getElem?_getD, hi]
        rfl
      · cases hi
    · unfold maxLen at hm
      omega
end Go.Proofs.YtbahjinlcbjikaaGreat

/-! append at ints. -/
namespace Go.Proofs.YtbahjinlcbjikaaGreat
open Go.RowKit

theorem info_int : ((Tryz.prog.info? 3).map (fun i => (i.zero, i.size, i.bytes))) = some (some (.int .i64 0), 1, 8) := by kernel_rfl
theorem run_appendI {P : Program} {T E : TypeId} {i : TypeInfo} (ht : P.underlying T = some (.slice E)) (hi : P.info? E = some i) (hz : i.zero = some (.int .i64 0)) (hsz : i.size = 1) (hby : i.bytes = 8) (ty : TypeId)
    {w : World} {base : Nat} {v x : Value} {l m : List Int} (hown : OwnI w base E v l) (hx : Is w x m) (hlen : (l.length + m.length) * 8 ≤ 140737488355328) (hbase : base ≤ w.heap.size) :
    ∃ v' w', (Builtin.append_ #[T, T] ty #[v, x]).run P w = .ok v' w' ∧ OwnI w' base E v' (l ++ m) ∧ w.grownBy w' v.ownBlock ∧ (∀ k, v'.ownBlock = some k → v.ownBlock = some k ∨ w.heap.size ≤ k) := by
  obtain ⟨a, c, rfl, hr⟩ := hx
  cases a with
  | none =>
    have hm : m = [] := by
      cases m with
      | nil => rfl
      | cons z m => obtain ⟨_, _, e, _⟩ := hr 0 z rfl; cases e
    subst hm
    refine ⟨v, w, ?_, by simpa using hown, ⟨rfl, rfl, rfl, Nat.le_refl _, fun _ _ _ => rfl⟩, fun k h => .inl h⟩
    rcases hown.2 with ⟨rfl, _⟩ | ⟨g, cap, cur, rfl, _, _, hnc, _⟩
    · simp [Builtin.append_, run_underlying ht, sizeOf, typeInfo, hi, Builtin.lenOf, Builtin.firstCells]
    · simp [Builtin.append_, run_underlying ht, sizeOf, typeInfo, hi, Builtin.lenOf, Builtin.firstCells, hnc, storeCells]
  | some ad =>
    have hcells : ∀ (j : Nat) (u : Value), (m.map iv)[j]? = some u → w.cell? (ad.add j) = some u := fun j u hu => by
        simp only [List.getElem?_map, Option.map_eq_some_iff] at hu
        obtain ⟨b, hb, rfl⟩ := hu
        obtain ⟨g, o, e, hc⟩ := hr j b hb
        cases e
        unfold Addr.add
        split
        · rename_i hz
          subst hz
          simpa using hc
        · exact hc
    have hone : ∀ u ∈ m.map iv, u.oneCell' = true := fun u hu => by
        simp only [List.mem_map] at hu
        obtain ⟨b, _, rfl⟩ := hu
        rfl
    by_cases hnil : v = .slice none 0 0
    · subst hnil
      obtain ⟨v', w', h1, h2, h3, h4⟩ := run_append_own (P := P) w w.heap.size T ty E i _ 1 8 ht hi hz hsz hby rfl (by decide) (.slice none 0 0) l.length (l.map iv) (by
        rcases hown.2 with ⟨_, h0⟩ | ⟨_, _, _, e, _⟩
        · have : l = [] := List.eq_nil_of_length_eq_zero h0
          subst this
          exact World.ownsRow_nil w w.heap.size E 1
        · cases e) ad m.length c (m.map iv) (by simp) hcells hone (by unfold maxLen; omega) (by omega) (Nat.le_refl _)
      refine ⟨v', w', h1, ?_, h3, fun k hk => .inr (World.ownsRow.lt h2 k hk).1⟩
      unfold OwnI
      rw [List.map_append, List.length_append]
      refine ⟨h2.1, h2.2.imp id ?_⟩
      rintro ⟨g, cap, cur, e, q1, r⟩
      exact ⟨g, cap, cur, e, by omega, r⟩
    · rcases hown.2 with ⟨h0, _⟩ | ⟨gv, cap, cur, rfl, hb, hg, hnc, hcm, hcs, htk⟩
      · exact absurd h0 hnil
      · by_cases hroom : l.length + m.length ≤ cap
        · obtain ⟨w', h1, h2, h3⟩ := run_append_fits (P := P) w base T ty E i 1 ht hi hsz gv l.length cap (l.map iv) hown ad m.length c (m.map iv) (by simp) hcells hone hroom
          refine ⟨_, w', h1, ?_, h3, fun k hk => .inl hk⟩
          unfold OwnI
          rw [List.map_append, List.length_append]
          exact h2
        · have holds : ∀ (j : Nat) (u : Value), (l.map iv)[j]? = some u → w.cell? ((⟨gv, 0, none⟩ : Addr).add j) = some u := fun j u hu => by
            have h9 : w.cell? ⟨gv, j, none⟩ = some u := by
              rw [← htk, List.getElem?_take] at hu
              split at hu
              · simp [World.cell?, hg]
                simpa using hu
              · cases hu
            unfold Addr.add
            split
            · rename_i hz
              subst hz
              exact h9
            · simpa using h9
          obtain ⟨v', w', h1, h2, h3⟩ := run_append_arg_grows (P := P) w T ty E i _ 1 8 ht hi hz hsz hby rfl (by decide) ⟨gv, 0, none⟩ l.length cap (l.map iv) (by simp) holds ad m.length c (m.map iv) (by simp) hcells (by omega) (by unfold maxLen; omega) (by omega)
          have ho' : OwnI w' w.heap.size E v' (l ++ m) := by
            unfold OwnI
            rw [List.map_append, List.length_append]
            exact h2
          refine ⟨v', w', h1, ?_, ⟨h3.os, h3.tape, h3.output, h3.size, fun k hk _ => h3.block k hk (by simp)⟩, fun k hk => .inr (World.ownsRow.lt ho' k hk).1⟩
          refine ⟨ho'.1, ho'.2.imp id ?_⟩
          rintro ⟨g, cap2, cur2, e, q1, r⟩
          exact ⟨g, cap2, cur2, e, by omega, r⟩
end Go.Proofs.YtbahjinlcbjikaaGreat

/-! '[]byte("x")' of one byte, as the text has it: a literal slice that is converted. -/
namespace Go.Proofs.YtbahjinlcbjikaaGreat
open Go.RowKit

theorem litA_bs {W W' : World} (x : Int) (u : UInt8) (hx : x = (u.toNat : Int)) (h : (W.alloc (.cells #[.int .u8 x] 5)).freeze ⟨W.heap.size, 1, none⟩ 1 = W') : Bs W' (.slice (some ⟨W.heap.size, 0, none⟩) 1 1) [u] := by
  rw [← h]
  refine Bs.mk rfl (Nat.le_refl _) (by simp [maxLen]) (fun i y hi => ?_)
  match i, hi with
  | 0, hi =>
    simp at hi
    subst hi
    have hb := Blk.new W #[.int .u8 x] 5
    unfold Blk at hb
    generalize W.alloc (.cells #[.int .u8 x] 5) = V at hb ⊢
    generalize W.heap.size = g at hb ⊢
    simp [World.cell?, World.freeze, Array.getElem?_modify, hb, hx]
theorem litA_below {W W' : World} {x : Int} (h : (W.alloc (.cells #[.int .u8 x] 5)).freeze ⟨W.heap.size, 1, none⟩ 1 = W') : Below W.heap.size W W' := by
  rw [← h]
  exact Lib.below_freeze ((Below.refl _ W).alloc (Nat.le_refl _) _) (Nat.le_refl _) 1
theorem litA_conv {W W' : World} {x : Int} (h : (W.alloc (.cells #[.int .u8 x] 5)).freeze ⟨W.heap.size, 1, none⟩ 1 = W') : (convert 35 35 (.slice (some ⟨W.heap.size, 0, none⟩) 1 1)).run Tryz.prog (W.alloc (.cells #[.int .u8 x] 5)) = .ok (.slice (some ⟨W.heap.size, 0, none⟩) 1 1) W' := by
  have hb := Blk.new W #[.int .u8 x] 5
  unfold Blk at hb
  rw [← h]
  clear h
  generalize W.alloc (.cells #[.int .u8 x] 5) = V at hb ⊢
  generalize W.heap.size = g at hb ⊢
  simp [convert, run_underlying Tryz.underlying35, run_underlying Tryz.underlying5, Sem.run_bind, markStringish, World.shape?, hb]
end Go.Proofs.YtbahjinlcbjikaaGreat
