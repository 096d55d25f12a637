import Derived.Test.YtcdcjoofcbdilaaGreatMRangeL
import Derived.OwnWalkIn
import Derived.TacticsInMore
import Derived.LoopNIn
import Derived.LoopIn
import Derived.Sort.CutIn
/-! Package register: all, its iterator. -/
namespace Go.Proofs.YtcdcjoofcbdilaaGreat
open Go.RowKit
attribute [local go_sem] Oper.semAt_some

/-- What the iterator of all hands on. -/
def AnY (rs : List An) (B : Nat) (j : Nat) (al : Nat → Prop) (W : World) (args : Array Value) : Prop := ∃ r v, rs[j]? = some r ∧ args = #[.agg #[.int .i64 r.e, .int .i64 r.ver, .int .i64 r.pr, .int .i64 r.ba, .bool r.le, v]] ∧ Own8 W B 5 v r.b ∧ (∀ g, v.ownBlock = some g → ¬ al g ∧ g < W.heap.size ∧ B ≤ g) ∧ ∀ b, al b → b < W.heap.size
def AnFin (L : Nat) (s : RgS) (al : Nat → Prop) (W : World) : Prop := ∃ p, al = p.all L ∧ RgAt W L p s
theorem AnFin.ext {L : Nat} {s : RgS} {al : Nat → Prop} {A B : World} (h : AnFin L s al A) (he : Ext (fun b => ¬ al b) A B) : AnFin L s al B := by
  obtain ⟨p, rfl, h⟩ := h
  exact ⟨p, rfl, h.ext he (fun b hb hc => hb hc)⟩

section
variable {w : World} {L : Nat} {p : RgL} {s : RgS}
theorem idxR_get : ∀ (n s t : Nat), t < n → (idxR s n)[t]? = some ((s + t : Nat) : Int)
  | 0, _, t, h => by omega
  | n + 1, s, 0, _ => by simp [idxR]
  | n + 1, s, t + 1, h => by
    have := idxR_get n (s + 1) t (by omega)
    show (idxR (s + 1) n)[t]? = _
    rw [this]
    congr 2
    omega
set_option maxRecDepth 100000 in
set_option maxHeartbeats 6400000 in
theorem all_iter (lb rb : Nat) (k key ver bal : Int) (dv : Value) (nodes : List Int) (l : List UInt8) (kp : Nat → Prop) (h : RgAt w L p s) (hnodes : nodes = idxR 0 s.acs.length) (hpr : s.room nodes.length)
    (hl : Blk w lb #[.pointer (some ⟨L, 0, none⟩)] 23) (hr : Blk w rb #[.int .i64 k, .int .i64 key, .int .i64 ver, .int .i64 bal, dv] 48) (hd : Bs w dv l)
    (k2 : kp lb ∧ ¬ p.all L lb) (k3 : kp rb ∧ ¬ p.all L rb) (k5 : ∀ g, dv.ownBlock = some g → (kp g ∧ ¬ p.all L g)) :
    IterL Tryz.prog 94 #[.pointer (some ⟨lb, 0, none⟩), .pointer (some ⟨rb, 0, none⟩)] (allR s k key ver bal l nodes).1.length (AnY (allR s k key ver bal l nodes).1 w.heap.size) kp
      (AnFin L (allR s k key ver bal l nodes).2) (fun j => AnFin L (afterR k key ver bal l s nodes j)) (p.all L) w.heap.size w := by
  intro n l0 J Jx hJ hJx hR h0
  obtain ⟨da, dc, hdv⟩ := hd.form
  subst hdv
  have x0 := hl.cell (o := 0) rfl
  have x1 := h.link.cell (o := 1) rfl
  have hfew := h.few
  have hlen : nodes.length = s.acs.length := by rw [hnodes]; exact idxR_length _ _
  have HLN := hid (And.intro hnodes hlen)
  refine callsIn_of_wp Tryz.func94 rfl trivial ?_ rfl
  simp only [Tryz.ntmps94, List.size_toArray, List.length_cons, List.length_nil, Nat.reduceAdd, Nat.reduceSub, Array.replicate_succ, Array.replicate_zero, List.push_toArray, List.append_toArray, List.nil_append, List.cons_append]
  have HLB := hid hl
  have HR := hid hr
  have HD := hid hd
  have HRR := hid hR
  have HJ := hid hJ
  have HJX := hid hJx
  have HH := hid h
  have HPR := hid hpr
  have hlw := h.link.lt
  clear hl hr hd hR hJ hJx hpr hnodes hlen
  obtain ⟨N, hN⟩ : ∃ N, s.acs.length = N := ⟨_, rfl⟩
  rw [hN] at x1 hfew
  have HNN := hid (show nodes.length = N ∧ nodes = idxR 0 N from ⟨by rw [HLN.out.2, hN], by rw [← hN]; exact HLN.out.1⟩)
  clear hN
  gi_wp2
  clear x0 x1
  gi_loopw [12] (fun i wr => ∃ (t : Nat) (pr : RgL), t ≤ N ∧ i = .int .i64 (t : Int) ∧ RgAt wr L pr (allR s k key ver bal l (nodes.take t)).2 ∧ J (allR s k key ver bal l (nodes.take t)).1.length (pr.all L) wr ∧ (∀ b, pr.all L b → p.all L b ∨ w.heap.size ≤ b) ∧ Ext (fun b => ¬ kp b ∨ p.all L b) w wr) (fun i _ => N - (intOf i).toNat)
  case atStart => exact ⟨0, p, Nat.zero_le _, rfl, h, h0, fun b hb => .inl hb, Ext.refl _ _⟩
  case round =>
    obtain ⟨t, pr, ht, rfl, hL, hJt, hgr, hx⟩ := hrel
    clear h h0
    by_cases hlt9 : t < N
    · have hlt : t < nodes.length := by rw [HNN.out.1]; exact hlt9
      obtain ⟨z, hz9⟩ : ∃ z : Int, (t : Int) = z := ⟨_, rfl⟩
      have hz : nodes[t]? = some z := by rw [HNN.out.2, idxR_get N 0 t hlt9, ← hz9, Nat.zero_add]
      have HZ9 := hid hz9
      have hd1 : decide ((t : Int) < (N : Int)) = true := decide_eq_true (by omega)
      have htk : nodes.take (t + 1) = nodes.take t ++ [z] := by rw [List.take_add_one, hz]; rfl
      have hall : nodes = nodes.take t ++ z :: nodes.drop (t + 1) := by
        have h1 := List.take_append_drop t nodes
        have h2 := List.drop_eq_getElem_cons hlt
        rw [h2] at h1
        rw [List.getElem?_eq_getElem hlt] at hz
        cases hz
        exact h1.symm
      have hno : ∀ b, kp b → ¬ p.all L b → ¬ (¬ kp b ∨ p.all L b) := fun b h1 h2 h3 => h3.elim (fun h => h h1) h2
      have kb := HLB.out.ext hx (hno _ k2.1 k2.2)
      have kr := HR.out.ext hx (hno _ k3.1 k3.2)
      have hdr := HD.out.ext hx (fun g hg _ => hno g (k5 g hg).1 (k5 g hg).2)
      have y0 := kb.cell (o := 0) rfl
      have z0 := kr.cell (o := 0) rfl
      have z1 := kr.cell (o := 1) rfl
      have z2 := kr.cell (o := 2) rfl
      have z3 := kr.cell (o := 3) rfl
      have z4 := kr.cell (o := 4) rfl
      have HAP := hid (And.intro htk hall)
      have hpt : (allR s k key ver bal l (nodes.take t)).2.room 1 := allR_room _ (HPR.out.le (by simp; omega))
      have HA := hid (reg_Ask hL hpt z k key ver bal _ l hdr)
      have HS := hid (And.intro hJt (And.intro hgr hx))
      clear hz htk hall kb kr hdr hpt hJt hgr hx hno hL
      have hz9 := HZ9.out
      gi_wp2
      refine ⟨trivial, fun h => by simp [Fence.wide] at h, callsIn_wide.2 (HA.out.mono ?_)⟩
      clear HA y0 z0 z1 z2 z3 z4
      rintro e w2 ⟨p2, h2, g2, x2, hres⟩
      have hsz := HS.out.2.2.size
      have hJ2 : ∀ w3 : World, Below w2.heap.size w2 w3 → J (allR s k key ver bal l (nodes.take t)).1.length (p2.all L) w3 := fun w3 hb => HJ.out _ (pr.all L) (p2.all L) wr w3 HS.out.1 ((x2.mono (fun b _ h => .inl h) : Ext (fun b => pr.all L b ∨ (w.heap.size ≤ b ∧ b < w.heap.size)) wr w2).then hb) g2
      have hgr2 : ∀ b, p2.all L b → p.all L b ∨ w.heap.size ≤ b := fun b hb => (g2 b hb).elim (HS.out.2.1 b) (fun h => .inr (by omega))
      have hx2 : Ext (fun b => ¬ kp b ∨ p.all L b) w w2 := HS.out.2.2.trans x2 (fun b hb => (HS.out.2.1 b hb).imp .inr id)
      have hst : (allR s k key ver bal l (nodes.take (t + 1))) = ((allR s k key ver bal l (nodes.take t)).1 ++ (askR (allR s k key ver bal l (nodes.take t)).2 z k key ver bal l).1.toList, (askR (allR s k key ver bal l (nodes.take t)).2 z k key ver bal l).2) := by
        rw [HAP.out.1, allR_append]
        simp [allR]
      have HST := hid hst
      have H2 := hid h2
      have HG := hid (And.intro hgr2 hx2)
      have HJ2 := hid hJ2
      clear hst h2 hgr2 hx2 hJ2 g2 x2
      cases hm : (askR (allR s k key ver bal l (nodes.take t)).2 z k key ver bal l).1 with
      | none =>
        rw [hm] at hres
        obtain ⟨a0, a1, a2, a3, a4, a, n9, c, rfl⟩ := hres
        have HM := hid hm
        clear hm
        gi_wp2
        refine ⟨(fun f hf => by cases hf), ?_⟩
        gi_wp2
        go_roundw
        case rel =>
          have hb9 : Below w2.heap.size w2 (w2.alloc (.cells #[.int .i64 a0, .int .i64 a1, .int .i64 a2, .int .i64 a3, .bool a4, .slice a n9 c] 44)) := (Below.refl _ _).alloc (Nat.le_refl _) _
          refine ⟨t + 1, p2, by omega, by go_num, ?_, ?_, HG.out.1, HG.out.2.then hb9⟩
          · rw [HST.out]
            exact H2.out.keep hb9
          · rw [HST.out, HM.out]
            simp only [Option.toList_none, List.append_nil]
            exact HJ2.out _ hb9
        case measure => simp [intOf]; omega
      | some r =>
        rw [hm] at hres
        obtain ⟨v, rfl, ov, hva⟩ := hres
        obtain ⟨va, vc, rfl⟩ := ov.form
        obtain ⟨W1, hW1⟩ : ∃ W1, w2.alloc (.cells #[.int .i64 r.e, .int .i64 r.ver, .int .i64 r.pr, .int .i64 r.ba, .bool r.le, .slice va r.b.length vc] 44) = W1 := ⟨_, rfl⟩
        have b1 : Below w2.heap.size w2 W1 := by rw [← hW1]; exact (Below.refl _ _).alloc (Nat.le_refl _) _
        have q1 : Blk W1 w2.heap.size #[.int .i64 r.e, .int .i64 r.ver, .int .i64 r.pr, .int .i64 r.ba, .bool r.le, .slice va r.b.length vc] 44 := by rw [← hW1]; exact Blk.new w2 _ _
        have hrs : (allR s k key ver bal l nodes).1[(allR s k key ver bal l (nodes.take t)).1.length]? = some r := by
          have h9 : ∀ (A B ns : List Int), ns = A ++ z :: B → (askR (allR s k key ver bal l A).2 z k key ver bal l).1 = some r → (allR s k key ver bal l ns).1[(allR s k key ver bal l A).1.length]? = some r := by
            rintro A B _ rfl h9
            rw [allR_append]
            simp [allR, h9]
          exact h9 _ _ _ HAP.out.2 hm
        have hRound := HRR.out (n - 1) _ (p2.all L) W1 #[.agg #[.int .i64 r.e, .int .i64 r.ver, .int .i64 r.pr, .int .i64 r.ba, .bool r.le, .slice va r.b.length vc]] (List.getElem?_eq_some_iff.1 hrs).1 (HJ2.out _ b1) ⟨r, _, hrs, rfl, (ov.keep b1).mono hsz, fun g hg => ⟨hva g hg, Nat.lt_of_lt_of_le (ov.blk g hg).2 b1.size, Nat.le_trans hsz (ov.blk g hg).1⟩, fun b hb => (H2.out.keep b1).size hb⟩ (Nat.le_trans HG.out.2.size b1.size)
        have HQ := hid q1
        have HB1 := hid b1
        have m0 := q1.cell (o := 0) rfl
        have mf0 := q1.free 0
        have m1 := q1.cell (o := 1) rfl
        have mf1 := q1.free 1
        have m2 := q1.cell (o := 2) rfl
        have mf2 := q1.free 2
        have m3 := q1.cell (o := 3) rfl
        have mf3 := q1.free 3
        have m4 := q1.cell (o := 4) rfl
        have mf4 := q1.free 4
        have m5 := q1.cell (o := 5) rfl
        have mf5 := q1.free 5
        have HM := hid hm
        clear q1 b1 hrs hm ov hva HJ2
        obtain ⟨fn, tmps, assign, body, hy, hRR⟩ := hRound
        gi_wp2
        clear hW1 m0 m1 m2 m3 m4 m5 mf0 mf1 mf2 mf3 mf4 mf5
        refine ⟨fun h => by simp [Fence.wide] at h, hRR.mono ?_⟩
        have hkb : ∀ {w3 : World}, Ext (fun b => ¬ p2.all L b ∧ ¬ kp b ∧ ¬ (w.heap.size ≤ b ∧ b < w.heap.size)) W1 w3 → RgAt w3 L p2 (askR (allR s k key ver bal l (nodes.take t)).2 z k key ver bal l).2 ∧ Ext (fun b => ¬ kp b ∨ p.all L b) w w3 := fun hx3 =>
          ⟨(H2.out.keep HB1.out).ext hx3 (fun b hb hc => hb.1 hc), (HG.out.2.then HB1.out).trans' (hx3.mono (fun b _ hb => .inl hb.2.1))⟩
        rintro e W3 (⟨rfl, hJ3, hx3⟩ | ⟨rfl, hJx3, hx3⟩)
        · obtain ⟨hL3, hx4⟩ := hkb hx3
          clear hkb hRR
          gi_wp2
          go_roundw
          case rel =>
            refine ⟨t + 1, p2, by omega, by go_num, ?_, ?_, HG.out.1, hx4⟩
            · rw [HST.out]
              exact hL3
            · rw [HST.out, HM.out]
              simp only [Option.toList_some, List.length_append, List.length_cons, List.length_nil]
              exact hJ3
          case measure => simp [intOf]; omega
        · obtain ⟨hL3, hx4⟩ := hkb hx3
          clear hkb hRR
          gi_wp2
          refine bodyPost_ret (results_none rfl _ _ _) rfl ?_
          refine ⟨⟨_, rfl⟩, .inr ⟨_, _, hJx3, p2, rfl, ?_⟩⟩
          have := afterR_append (k := k) (key := key) (ver := ver) (bal := bal) (l := l) (n := z) (b := nodes.drop (t + 1)) (r := r) (nodes.take t) s HM.out
          rw [← HAP.out.2] at this
          rw [this]
          exact hL3
    · obtain rfl : t = N := by omega
      have hd1 : decide ((t : Int) < (t : Int)) = false := decide_eq_false (by omega)
      rw [← HNN.out.1, List.take_length] at hL hJt
      gi_wp2
      go_end0
      exact ⟨⟨_, rfl⟩, .inl ⟨_, hJt, pr, rfl, hL⟩⟩
end
end Go.Proofs.YtcdcjoofcbdilaaGreat

/-! Package register: what hear lays down: answers in a row, the one that is learned. -/
namespace Go.Proofs.YtcdcjoofcbdilaaGreat
open Go.RowKit

def acell (r : An) (v : Value) : List Value := [.int .i64 r.e, .int .i64 r.ver, .int .i64 r.pr, .int .i64 r.ba, .bool r.le, v]
def acells (ps : List (An × Value)) : List Value := ps.flatMap (fun q => acell q.1 q.2)
theorem acells_append (a b : List (An × Value)) : acells (a ++ b) = acells a ++ acells b := by simp [acells]
theorem acells_length : ∀ (ps : List (An × Value)), (acells ps).length = ps.length * 6
  | [] => rfl
  | q :: ps => by
    have h := acells_length ps
    show (acell q.1 q.2 ++ acells ps).length = _
    rw [List.length_append, h]
    simp [acell]
    omega
theorem acells_at : ∀ {ps : List (An × Value)} {i : Nat} {q : An × Value} (o : Nat), o < 6 → ps[i]? = some q → (acells ps)[i * 6 + o]? = (acell q.1 q.2)[o]?
  | [], i, q, o, ho, h => by simp at h
  | x :: ps, 0, q, o, ho, h => by
    simp at h
    subst h
    show (acell x.1 x.2 ++ acells ps)[0 * 6 + o]? = _
    rw [List.getElem?_append_left (by simp [acell]; omega), Nat.zero_mul, Nat.zero_add]
  | x :: ps, i + 1, q, o, ho, h => by
    have h2 := acells_at (ps := ps) (i := i) (q := q) o ho (by simpa using h)
    show (acell x.1 x.2 ++ acells ps)[(i + 1) * 6 + o]? = _
    rw [List.getElem?_append_right (by simp [acell]; omega)]
    have e : (i + 1) * 6 + o - (acell x.1 x.2).length = i * 6 + o := by simp [acell]; omega
    rw [e]
    exact h2
abbrev OwnA (w : World) (base : Nat) (v : Value) (ps : List (An × Value)) : Prop := w.ownsRow base 44 6 v ps.length (acells ps)
theorem info_ans : ((Tryz.prog.info? 44).map (fun i => (i.zero, i.size, i.bytes))) = some (some (.agg #[.int .i64 0, .int .i64 0, .int .i64 0, .int .i64 0, .bool false, .slice none 0 0]), 6, 64) := by kernel_rfl
theorem OwnA.ext {fp : Nat → Prop} {w w' : World} {base : Nat} {v : Value} {ps : List (An × Value)} (h : OwnA w base v ps) (he : Ext fp w w') (hn : ∀ k, v.ownBlock = some k → ¬ fp k) : OwnA w' base v ps := by
  refine ⟨h.1, h.2.imp id ?_⟩
  rintro ⟨g, cap, cur, e, h1, h2, r⟩
  refine ⟨g, cap, cur, e, h1, (he.block g (Array.getElem?_eq_some_iff.1 h2).1 (hn g (by rw [e]; rfl))).trans h2, r⟩
theorem OwnA.form {w : World} {base : Nat} {v : Value} {ps : List (An × Value)} (h : OwnA w base v ps) : (v = .slice none 0 0 ∧ ps = []) ∨ ∃ g c, v = .slice (some ⟨g, 0, none⟩) ps.length c := by
  rcases h.2 with ⟨e, h0⟩ | ⟨g, cap, cur, e, _⟩
  · exact .inl ⟨e, List.eq_nil_of_length_eq_zero h0⟩
  · exact .inr ⟨g, cap, e⟩
theorem OwnA.cells {w : World} {base g n cap : Nat} {ps : List (An × Value)} (h : OwnA w base (.slice (some ⟨g, 0, none⟩) n cap) ps) {j : Nat} {u : Value} (hu : (acells ps)[j]? = some u) : w.cell? ⟨g, j, none⟩ = some u := by
  rcases h.2 with ⟨e, _⟩ | ⟨g2, cap2, cur, e, hb, hg, hnc, hcm, hcs, htk⟩
  · cases e
  · injection e with e1 e2 e3
    injection e1 with e1
    injection e1 with e1
    subst e1 e3
    rw [← htk, List.getElem?_take] at hu
    split at hu
    · simp [World.cell?, hg]
      simpa using hu
    · cases hu
theorem OwnA.typed {w : World} {base : Nat} {v : Value} {ps : List (An × Value)} (h : OwnA w base v ps) : ∀ g, v.ownBlock = some g → ∃ cs, w.heap[g]? = some (.cells cs 44) := by
  rcases h.2 with ⟨rfl, _⟩ | ⟨g, cap, cur, rfl, _, hg, _⟩
  · intro g hg; cases hg
  · intro g2 hg2
    cases hg2
    exact ⟨_, hg⟩
theorem Own8.typed {w : World} {base : Nat} {v : Value} {l : List UInt8} (h : Own8 w base 5 v l) : ∀ g, v.ownBlock = some g → ∃ cs, w.heap[g]? = some (.cells cs 5) := by
  rcases h.2 with ⟨rfl, _⟩ | ⟨g, cap, cur, rfl, _, hg, _⟩
  · intro g hg; cases hg
  · intro g2 hg2
    cases hg2
    exact ⟨_, hg⟩
theorem Own8.extV {fp : Nat → Prop} {w w' : World} {base : Nat} {t : TypeId} {v : Value} {l : List UInt8} (h : Own8 w base t v l) (he : Ext fp w w') (hn : ∀ k, v.ownBlock = some k → ¬ fp k) : Own8 w' base t v l := by
  refine ⟨h.1, h.2.imp id ?_⟩
  rintro ⟨g, cap, cur, e, h1, h2, r⟩
  refine ⟨g, cap, cur, e, h1, (he.block g (Array.getElem?_eq_some_iff.1 h2).1 (hn g (by rw [e]; rfl))).trans h2, r⟩
/-- An answer's bytes, in a block of nobody's. -/
def ValAt (W : World) (al : Nat → Prop) (M : Nat) (r : An) (v : Value) : Prop := Own8 W M 5 v r.b ∧ ∀ g, v.ownBlock = some g → ¬ al g
def GoodAt (W : World) (al : Nat → Prop) (M : Nat) (gv : Value) (gs : List An) : Prop := ∃ ps, ps.map (·.1) = gs ∧ OwnA W M gv ps ∧ (∀ q ∈ ps, ValAt W al M q.1 q.2) ∧ ∀ g, gv.ownBlock = some g → ¬ al g
def LearnAt (W : World) (al : Nat → Prop) (M : Nat) (gv lp : Value) : Option An → Prop
  | none => lp = .pointer none
  | some r => ∃ X v, lp = .pointer (some ⟨X, 0, none⟩) ∧ Blk W X (acell r v).toArray 44 ∧ ¬ al X ∧ M ≤ X ∧ gv.ownBlock ≠ some X ∧ ValAt W al M r v
theorem GoodAt.lt {W : World} {al : Nat → Prop} {M : Nat} {gv : Value} {gs : List An} (h : GoodAt W al M gv gs) : ∀ g, gv.ownBlock = some g → M ≤ g ∧ g < W.heap.size := by
  obtain ⟨ps, _, h2, _⟩ := h
  exact World.ownsRow.lt h2
theorem GoodAt.typed {W : World} {al : Nat → Prop} {M : Nat} {gv : Value} {gs : List An} (h : GoodAt W al M gv gs) : ∀ g, gv.ownBlock = some g → ∃ cs, W.heap[g]? = some (.cells cs 44) := by
  obtain ⟨ps, _, h2, _⟩ := h
  exact h2.typed
theorem GoodAt.form {W : World} {al : Nat → Prop} {M : Nat} {gv : Value} {gs : List An} (h : GoodAt W al M gv gs) : ∃ a c, gv = .slice a gs.length c := by
  obtain ⟨ps, h1, h2, _⟩ := h
  rcases h2.form with ⟨e, e2⟩ | ⟨g, c, e⟩
  · exact ⟨none, 0, by rw [e, ← h1, e2]; rfl⟩
  · exact ⟨_, c, by rw [e, ← h1, List.length_map]⟩
section
variable {W W' : World} {al al' fp : Nat → Prop} {M : Nat} {gv gv' lp : Value}
theorem ValAt.move {r : An} {v : Value} (h : ValAt W al M r v) (he : Ext fp W W') (hf : ∀ b, fp b → al b ∨ b < M ∨ W.heap.size ≤ b ∨ ∃ cs, W.heap[b]? = some (.cells cs 44)) (ha : ∀ b, al' b → al b ∨ W.heap.size ≤ b) : ValAt W' al' M r v := by
  refine ⟨h.1.extV he (fun g hg hc => ?_), fun g hg hc => ?_⟩
  · have hb := h.1.blk g hg
    rcases hf g hc with h1 | h1 | h1 | ⟨cs, h1⟩
    · exact h.2 g hg h1
    · omega
    · omega
    · obtain ⟨cs2, h2⟩ := h.1.typed g hg
      rw [h1] at h2
      injection h2 with h2
      injection h2 with _ h2
      exact absurd h2 (by decide)
  · have hb := h.1.blk g hg
    rcases ha g hc with h1 | h1
    · exact h.2 g hg h1
    · omega
theorem GoodAt.move {gs : List An} (h : GoodAt W al M gv gs) (he : Ext fp W W') (hf : ∀ b, fp b → al b ∨ b < M ∨ W.heap.size ≤ b) (ha : ∀ b, al' b → al b ∨ W.heap.size ≤ b) : GoodAt W' al' M gv gs := by
  have hl := h.lt
  obtain ⟨ps, h1, h2, h3, h4⟩ := h
  refine ⟨ps, h1, h2.ext he (fun g hg hc => ?_), fun q hq => (h3 q hq).move he (fun b hb => (hf b hb).imp id (fun h => h.imp id .inl)) ha, fun g hg hc => ?_⟩
  · have := hl g hg
    rcases hf g hc with h9 | h9 | h9
    · exact h4 g hg h9
    · omega
    · omega
  · have := hl g hg
    rcases ha g hc with h9 | h9
    · exact h4 g hg h9
    · omega
theorem LearnAt.move {lo : Option An} (h : LearnAt W al M gv lp lo) (ht : ∀ g, gv.ownBlock = some g → ∃ cs, W.heap[g]? = some (.cells cs 44)) (he : Ext fp W W') (hf : ∀ b, fp b → al b ∨ b < M ∨ W.heap.size ≤ b ∨ gv.ownBlock = some b) (ha : ∀ b, al' b → al b ∨ W.heap.size ≤ b) (hg : ∀ b, gv'.ownBlock = some b → gv.ownBlock = some b ∨ W.heap.size ≤ b) : LearnAt W' al' M gv' lp lo := by
  cases lo with
  | none => exact h
  | some r =>
    obtain ⟨X, v, h1, h2, h3, h4, h5, h6⟩ := h
    have hX := h2.lt
    refine ⟨X, v, h1, h2.ext he (fun hc => ?_), fun hc => ?_, h4, fun hc => ?_, h6.move he (fun b hb => (hf b hb).imp id (fun h => h.imp id (fun h => h.imp id (ht b)))) ha⟩
    · rcases hf X hc with h9 | h9 | h9 | h9
      · exact h3 h9
      · omega
      · omega
      · exact h5 h9
    · rcases ha X hc with h9 | h9
      · exact h3 h9
      · omega
    · rcases hg X hc with h9 | h9
      · exact h5 h9
      · omega
theorem OwnA.low {w : World} {base base' : Nat} {v : Value} {ps : List (An × Value)} (h : OwnA w base v ps) (hb : base' ≤ base) : OwnA w base' v ps := by
  refine ⟨h.1, h.2.imp id ?_⟩
  rintro ⟨g, cap, cur, e, h1, r⟩
  exact ⟨g, cap, cur, e, Nat.le_trans hb h1, r⟩
theorem ValAt.low {M' : Nat} {r : An} {v : Value} (h : ValAt W al M r v) (hm : M' ≤ M) : ValAt W al M' r v := ⟨h.1.mono hm, h.2⟩
theorem GoodAt.low {M' : Nat} {gs : List An} (h : GoodAt W al M gv gs) (hm : M' ≤ M) : GoodAt W al M' gv gs := by
  obtain ⟨ps, h1, h2, h3, h4⟩ := h
  exact ⟨ps, h1, h2.low hm, fun q hq => (h3 q hq).low hm, h4⟩
theorem LearnAt.low {M' : Nat} {lo : Option An} (h : LearnAt W al M gv lp lo) (hm : M' ≤ M) : LearnAt W al M' gv lp lo := by
  cases lo with
  | none => exact h
  | some r =>
    obtain ⟨X, v, h1, h2, h3, h4, h5, h6⟩ := h
    exact ⟨X, v, h1, h2, h3, Nat.le_trans hm h4, h5, h6.low hm⟩
/-- An answer more: the row grows. -/
theorem good_add {gs : List An} {r : An} {v : Value} (h : GoodAt W al M gv gs) (hv : ValAt W al M r v) (hM : M ≤ W.heap.size) (hal : ∀ b, al b → b < W.heap.size) (hl : (gs.length + 1) * 64 ≤ 140737488355328) (g0 c0 : Nat) (hg0 : Blk W g0 (acell r v).toArray 44) :
    ∃ gv' W', (Builtin.append_ #[81, 81] 81 #[gv, .slice (some ⟨g0, 0, none⟩) 1 c0]).run Tryz.prog W = .ok gv' W' ∧ GoodAt W' al M gv' (gs ++ [r]) ∧ (∀ b, gv'.ownBlock = some b → gv.ownBlock = some b ∨ W.heap.size ≤ b) ∧ Ext (fun b => gv.ownBlock = some b) W W' := by
  have hty := h.typed
  obtain ⟨ps, h1, h2, h3, h4⟩ := h
  have hpl : ps.length = gs.length := by rw [← h1]; simp
  have i0 : ∃ i, Tryz.prog.info? 44 = some i ∧ i.zero = some (.agg #[.int .i64 0, .int .i64 0, .int .i64 0, .int .i64 0, .bool false, .slice none 0 0]) ∧ i.size = 6 ∧ i.bytes = 64 := by
    obtain ⟨i, hi, hz0⟩ := Option.map_eq_some_iff.1 info_ans
    simp only [Prod.mk.injEq] at hz0
    exact ⟨i, hi, hz0.1, hz0.2.1, hz0.2.2⟩
  obtain ⟨i, hi, hz0, hz1, hz2⟩ := i0
  have hvs : v.oneCell' = true := by
    obtain ⟨a, c, rfl⟩ := hv.1.form
    rfl
  obtain ⟨gv', W', hr, q1, q2, _, q3⟩ := run_append_own_at (P := Tryz.prog) W M 81 81 44 i _ 6 64 Tryz.underlying81 hi hz0 hz1 hz2 rfl (by decide) gv ps.length (acells ps) h2 ⟨g0, 0, none⟩ 1 c0 (acells [(r, v)]) (by simp [acells, acell]) (fun j u hu => add_cell (by
      rw [Nat.zero_add]
      refine hg0.cell ?_
      have e : acells [(r, v)] = acell r v := by simp [acells]
      rw [e] at hu
      simpa using hu)) (fun u hu => by
      have e : acells [(r, v)] = acell r v := by simp [acells]
      rw [e] at hu
      simp only [acell, List.mem_cons, List.not_mem_nil, or_false] at hu
      rcases hu with rfl | rfl | rfl | rfl | rfl | rfl
      · rfl
      · rfl
      · rfl
      · rfl
      · rfl
      · exact hvs) (by unfold maxLen; omega) (by rw [hpl]; exact hl) hM
  rw [← acells_append] at q1
  have hown : ∀ b, gv'.ownBlock = some b → gv.ownBlock = some b ∨ W.heap.size ≤ b := fun b hb => q3.elim (fun e => .inl (by rw [← e]; exact hb)) (fun e => .inr (by rw [e] at hb; injection hb with hb; omega))
  have hE : Ext (fun b => gv.ownBlock = some b) W W' := (Ext.refl _ W).grown q2 (fun k e => .inl e)
  have q1' : OwnA W' M gv' (ps ++ [(r, v)]) := by unfold OwnA; rw [List.length_append]; exact q1
  have hfp : ∀ b, gv.ownBlock = some b → al b ∨ b < M ∨ W.heap.size ≤ b ∨ ∃ cs, W.heap[b]? = some (.cells cs 44) := fun b hb => .inr (.inr (.inr (hty b hb)))
  refine ⟨gv', W', hr, ⟨ps ++ [(r, v)], by simp [h1], q1', fun q hq => ?_, fun g hg hc => ?_⟩, hown, hE⟩
  · rcases List.mem_append.1 hq with hq | hq
    · exact (h3 q hq).move hE hfp (fun b hb => .inl hb)
    · simp at hq
      subst hq
      exact hv.move hE hfp (fun b hb => .inl hb)
  · rcases hown g hg with h9 | h9
    · exact h4 g h9 hc
    · have := hal g hc; omega
end
end Go.Proofs.YtcdcjoofcbdilaaGreat
