import Derived.Test.YtbahjinlcbjikaaGreatPlace
/-! Package loglet: Repair. -/
namespace Go.Proofs.YtbahjinlcbjikaaGreat
open Go.RowKit

def placesOk (c : Cfg) : Nat → LkS → Int → Prop
  | 0, _, _ => True
  | j + 1, s, pos => (0 < cntE 32 (repliesL s 4 c.id pos [] c.nodes).1 ∨ copiesL (repliesL s 4 c.id pos [] c.nodes).1 ≠ []) ∧ ((placeL s c pos).1 = 0 → placesOk c j (placeL s c pos).2 (pos + 1))
theorem placeL_prompt {s : LkS} (h : s.prompt) (c : Cfg) (pos : Int) : (placeL s c pos).2.prompt := by
  have h1 := repliesL_prompt (k := 4) (lo := c.id) (po := pos) (l := []) c.nodes h
  unfold placeL
  split
  · exact h1
  · split
    · exact h1
    · exact repliesL_prompt c.nodes h1
theorem LkPost.of {W W1 w' : World} {L : Nat} {p p1 : LkP} {s' : LkS} (h : LkPost W1 L p1 s' w') (hg : ∀ b, p1.all L b → p.all L b ∨ W.heap.size ≤ b) (hx : Ext (p.all L) W W1) : LkPost W L p s' w' := by
  obtain ⟨p', h1, h2, h3⟩ := h
  exact ⟨p', h1, fun b hb => (h2 b hb).elim (hg b) (fun h => .inr (Nat.le_trans hx.size h)), hx.trans h3 hg⟩
section
variable {W : World} {L : Nat} {p : LkP} {s : LkS}
set_option maxRecDepth 100000 in
set_option maxHeartbeats 6400000 in
theorem log_Repair (h : LkAt W L p s) (hpr : s.prompt) (iz : Int) (nv : Value) (nodes : List Int) (fa tb : Int) (hm : mayB s ⟨iz, nodes⟩ fa tb = true) (htb : tb ≤ 4096) (hn : Is W nv nodes) (hnl : nodes.length ≤ 1073741824) (k4 : ∀ g, nv.ownBlock = some g → ¬ p.all L g ∧ g < W.heap.size) (hok : placesOk ⟨iz, nodes⟩ (tb - fa).toNat s fa) :
    Calls Tryz.prog 24 #[.pointer (some ⟨L, 0, none⟩), .agg #[.int .i64 iz, nv], .int .i64 fa, .int .i64 tb] W fun e w' => e = .returned (.int .i64 (repairL s ⟨iz, nodes⟩ fa tb).1) ∧ LkPost W L p (repairL s ⟨iz, nodes⟩ fa tb).2 w' := by
  have hS : repairL s ⟨iz, nodes⟩ fa tb = placesL ⟨iz, nodes⟩ (tb - fa).toNat s fa := by
    unfold repairL
    rw [if_pos ⟨hm, htb⟩]
  rw [hS]
  clear hS
  have hfa : 0 ≤ fa ∧ fa ≤ tb := by
    unfold mayB at hm
    rw [Bool.and_eq_true] at hm
    exact of_decide_eq_true hm.2
  obtain ⟨N, hN⟩ : ∃ N, (tb - fa).toNat = N := ⟨_, rfl⟩
  rw [hN] at hok ⊢
  have hNb : fa + (N : Int) = tb := by omega
  clear hN
  obtain ⟨na, nc, hnv⟩ : ∃ a c, nv = .slice a nodes.length c := by obtain ⟨a, c, e, _⟩ := hn; exact ⟨a, c, e⟩
  subst hnv
  obtain ⟨W1, hW1⟩ : ∃ W1, W.alloc (.cells #[.int .i64 iz, .slice na nodes.length nc] 24) = W1 := ⟨_, rfl⟩
  have KB : Blk W1 W.heap.size #[.int .i64 iz, .slice na nodes.length nc] 24 := by rw [← hW1]; exact Blk.new _ _ _
  have b1 : Below W.heap.size W W1 := by rw [← hW1]; exact (Below.refl _ _).alloc (Nat.le_refl _) _
  have c0 := KB.cell (o := 0) rfl
  have c1 := KB.cell (o := 1) rfl
  have hs1 : W1.heap.size = W.heap.size + 1 := by rw [← hW1]; simp
  have HMAY := hid (link_may (h.keep b1) iz _ nodes fa tb (hn.keep b1) hnl hm)
  have HPL := hid (show ∀ b, p.all L b → b < W.heap.size from fun b hb => h.size hb)
  have HH := hid (And.intro h (And.intro hn k4))
  have HOK := hid hok
  clear hn k4 h hm hok
  go_enter Tryz.func24, Tryz.ntmps24
  go_wp2_with fail
  refine HMAY.out.mono ?_
  rintro e W2 ⟨rfl, b2⟩
  clear HMAY hW1 c0 c1
  have KB2 := KB.keep b2
  have b02 := b1.trans (b2.mono b1.size)
  have hs2 := b2.size
  have HB := hid (And.intro KB2 b02)
  clear KB KB2 b1 b2 b02
  go_wp2_with fail
  all_goals first | (exfalso; omega) | skip
  go_loopw [9] (fun i wr => ∃ (k : Nat) (pos : Int) (p' : LkP) (s' : LkS), k ≤ N ∧ i = .int .i64 pos ∧ pos = fa + (k : Int) ∧ LkAt wr L p' s' ∧ s'.prompt ∧ (∀ b, p'.all L b → p.all L b ∨ W.heap.size ≤ b) ∧ Ext (p.all L) W wr ∧ placesL ⟨iz, nodes⟩ N s fa = placesL ⟨iz, nodes⟩ (N - k) s' pos ∧ placesOk ⟨iz, nodes⟩ (N - k) s' pos ∧ Blk wr W.heap.size #[.int .i64 iz, .slice na nodes.length nc] 24 ∧ ¬ p'.all L W.heap.size) (fun i _ => (tb - intOf i).toNat)
  case atStart => exact ⟨0, fa, p, s, Nat.zero_le _, rfl, by omega, HH.out.1.keep HB.out.2, hpr, fun b hb => .inl hb, Ext.ofBelow HB.out.2, by rw [Nat.sub_zero], by rw [Nat.sub_zero]; exact HOK.out, HB.out.1, fun hc => by have := HPL.out _ hc; omega⟩
  case round =>
    obtain ⟨k, pos, p', s', hk, rfl, hpos, hL, hp', hg, hx, heq, hok, hB, hnb⟩ := hrel
    by_cases hlt : k < N
    · have hd1 : decide (pos < tb) = true := decide_eq_true (by omega)
      obtain ⟨j, hj⟩ : ∃ j, N - k = j + 1 := ⟨N - k - 1, by omega⟩
      rw [hj] at heq hok
      have c0 := hB.cell (o := 0) rfl
      have c1 := hB.cell (o := 1) rfl
      have HP := hid (link_place hL hp' iz (.slice na nodes.length nc) nodes pos (HH.out.2.1.ext hx (fun g hg9 _ hc => (HH.out.2.2 g hg9).1 hc)) hnl (fun g hg9 => ⟨fun hc => (hg g hc).elim (HH.out.2.2 g hg9).1 (fun h => by have := (HH.out.2.2 g hg9).2; omega), by have := (HH.out.2.2 g hg9).2; have := hx.size; omega⟩) hok.1)
      have hpp := placeL_prompt hp' ⟨iz, nodes⟩ pos
      have HR := hid (And.intro hg (And.intro hx (And.intro heq (And.intro hok.2 (And.intro hB (And.intro hnb hpp))))))
      have hsx := hx.size
      have hw : wrap64 (pos + 1) = pos + 1 := by unfold wrap64; omega
      have HPOS := hid hpos
      clear hL hp' hg hx heq hok hB hnb hpp hpos
      go_wp2_with fail
      refine HP.out.mono ?_
      rintro e w2 ⟨rfl, hpost⟩
      obtain ⟨r, hr⟩ : ∃ r, placeL s' ⟨iz, nodes⟩ pos = r := ⟨_, rfl⟩
      rw [hr] at hpost ⊢
      have HR2 := hid hr
      have HPO := hid hpost
      clear hr hpost c0 c1 HP
      by_cases he : r.1 = 0
      · have he2 : (r.1 == 0) = true := beq_iff_eq.2 he
        have HE := hid he
        clear he
        go_wp2_with fail
        go_roundw
        case rel =>
          obtain ⟨g1, g2, g3, g4, g5, g6, g7⟩ := HR.out
          obtain ⟨p2, q1, q2, q3⟩ := HPO.out
          rw [HR2.out] at g4 g7
          have hpos := HPOS.out
          refine ⟨k + 1, pos + 1, p2, r.2, by omega, congrArg _ hw, by omega, q1, g7, fun b hb => (q2 b hb).elim (g1 b) (fun h => .inr (by omega)), g2.trans q3 g1, ?_, ?_, g5.ext q3 g6, fun hc => (q2 _ hc).elim g6 (fun h => by have := g5.lt; omega)⟩
          · rw [g3, show N - (k + 1) = j from by omega]
            show (if (placeL s' ⟨iz, nodes⟩ pos).1 = 0 then placesL ⟨iz, nodes⟩ j (placeL s' ⟨iz, nodes⟩ pos).2 (pos + 1) else placeL s' ⟨iz, nodes⟩ pos) = _
            rw [HR2.out, if_pos HE.out]
          · rw [show N - (k + 1) = j from by omega]
            exact g4 HE.out
        case measure => have hpos := HPOS.out; simp [intOf]; omega
      · have he2 : (r.1 == 0) = false := beq_eq_false_iff_ne.2 he
        have HE := hid he
        clear he
        go_wp2_with fail
        go_ret
        obtain ⟨g1, g2, g3, g4, g5, g6, g7⟩ := HR.out
        have hfin : placesL ⟨iz, nodes⟩ N s fa = r := by
          rw [g3]
          show (if (placeL s' ⟨iz, nodes⟩ pos).1 = 0 then placesL ⟨iz, nodes⟩ j (placeL s' ⟨iz, nodes⟩ pos).2 (pos + 1) else placeL s' ⟨iz, nodes⟩ pos) = _
          rw [HR2.out, if_neg HE.out]
        rw [hfin]
        exact ⟨rfl, HPO.out.of g1 g2⟩
    · have hd1 : decide (pos < tb) = false := decide_eq_false (by omega)
      have hfin : placesL ⟨iz, nodes⟩ N s fa = (0, s') := by
        rw [heq, show N - k = 0 from by omega]
        rfl
      have HF := hid (And.intro hfin (And.intro hL (And.intro hg hx)))
      clear hfin hL hg hx heq hok hB hnb hp' hpos
      go_wp2_with fail
      go_ret
      rw [HF.out.1]
      obtain ⟨_, g1, g2, g3⟩ := HF.out
      exact ⟨rfl, p', g1, g2, g3⟩
end
end Go.Proofs.YtbahjinlcbjikaaGreat
