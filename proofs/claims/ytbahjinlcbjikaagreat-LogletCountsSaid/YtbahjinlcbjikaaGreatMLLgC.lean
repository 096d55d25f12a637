import Derived.Test.YtbahjinlcbjikaaGreatMLLgA
import Derived.Test.YtbahjinlcbjikaaGreatMLit
import Derived.Test.YtbahjinlcbjikaaGreatMDisk
/-! gazettelaw07: a link that lies from a world on, and what is done with it. -/
namespace Go.Proofs.YtbahjinlcbjikaaGreat
open Go.RowKit

def RL (W0 w : World) (L : Nat) (S : LkS) : Prop := ∃ p, LkAt w L p S ∧ Below W0.heap.size W0 w ∧ ∀ b, p.all L b → W0.heap.size ≤ b
section
variable {W0 w w2 : World} {L : Nat} {S : LkS}
theorem RL.keep (h : RL W0 w L S) (hb : Below w.heap.size w w2) : RL W0 w2 L S := by
  obtain ⟨p, h1, h2, h3⟩ := h
  exact ⟨p, h1.keep hb, h2.trans (hb.mono h2.size), h3⟩
theorem RL.below (h : RL W0 w L S) : Below W0.heap.size W0 w := by obtain ⟨p, _, h2, _⟩ := h; exact h2
theorem RL.opened (h : RL W0 w L S) (hb : Below w.heap.size w w2) : ∃ p, LkAt w2 L p S ∧ (∀ g, w.heap.size ≤ g → ¬ p.all L g) ∧ ∀ S' w', LkPost w2 L p S' w' → RL W0 w' L S' := by
  obtain ⟨p, h1, h2, h3⟩ := h
  refine ⟨p, h1.keep hb, fun g hg hc => by have := h1.size hc; omega, ?_⟩
  rintro S' w' ⟨p', g1, g2, g3⟩
  have hs := h2.size
  have hs2 := hb.size
  exact ⟨p', g1, (h2.trans (hb.mono h2.size)).trans (g3.belowOf (by omega) (fun b hb hc => by have := h3 b hc; omega)), fun b hb => (g2 b hb).elim (h3 b) (fun h => by omega)⟩
theorem RL.net (h : RL W0 w L S) : ∃ N, w.cell? ⟨L, 0, none⟩ = some (.pointer (some ⟨N, 0, none⟩)) := by
  obtain ⟨p, h1, _⟩ := h
  exact ⟨p.N, h1.link.cell (o := 0) rfl⟩
theorem link_Luck {W : World} {p : LkP} {s : LkS} (h : LkAt W L p s) (v : Value) (m : List Int) (hv : Is W v m) (hl : (s.luck.length + m.length) * 8 ≤ 140737488355328) :
    Calls Tryz.prog 27 #[.pointer (some ⟨p.N, 0, none⟩), v] W fun e w' => (∃ x, e = .returned x) ∧ LkPost W L p (luckL s m) w' := by
  refine (net_Luck s.luck m v h.net h.luck (fun e => (h.lvd _ e).2.1 rfl) hv hl).mono ?_
  rintro e w' ⟨hx, lv', k1, k2, k3, k4⟩
  have hna : p.na < W.heap.size := by obtain ⟨_, hc, _⟩ := h.arr; exact hc.lt
  have hLl := h.link.lt
  have hNl := h.net.lt
  refine ⟨hx, ⟨p.N, lv', p.tv, p.na, p.cap, p.vs, p.ow⟩, ⟨?_, k1, k2, ?_, h.len, h.few, ?_, h.dis, h.base, ?_, h.owd, ?_⟩, ?_, ?_⟩
  · exact h.link.ext k4 (fun hc => hc.elim h.base.1 (fun e => (h.lvd _ e).1 rfl))
  · obtain ⟨cs, hc, hvs⟩ := h.arr
    exact ⟨cs, hc.ext k4 (fun hc => hc.elim (fun e => h.base.2.2 e.symm) (fun e => (h.lvd _ e).2.2.1 rfl)), hvs⟩
  · intro i d hd
    obtain ⟨u, e1, e2⟩ := h.nds i d hd
    exact ⟨u, e1, e2.ext k4 (fun b hb hc => hc.elim (fun e => (h.owd i b hb).2.1 e) (fun e => (h.lvd b e).2.2.2 i hb))⟩
  · intro g hg
    rcases k3 g hg with hk | hk
    · exact h.lvd g hk
    · refine ⟨by omega, ?_, ?_, fun i hi => by have := h.lt i g hi; omega⟩
      · show g ≠ p.N
        omega
      · show g ≠ p.na
        omega
  · intro i b hb
    exact Nat.lt_of_lt_of_le (h.lt i b hb) k4.size
  · rintro b (e | e | e | e | ⟨i, e⟩)
    · exact .inl (.inl e)
    · exact .inl (.inr (.inl e))
    · exact .inl (.inr (.inr (.inl e)))
    · rcases k3 b e with hk | hk
      · exact .inl (.inr (.inr (.inr (.inl hk))))
      · exact .inr hk
    · exact .inl (.inr (.inr (.inr (.inr ⟨i, e⟩))))
  · exact k4.mono (fun b _ hb => hb.elim (fun e => .inr (.inl e)) (fun e => .inr (.inr (.inr (.inl e)))))
theorem rl_luck (h : RL W0 w L S) (N : Nat) (hN : w.cell? ⟨L, 0, none⟩ = some (.pointer (some ⟨N, 0, none⟩))) (hb : Below w.heap.size w w2) (v : Value) (m : List Int) (hv : Is w2 v m) (hl : (S.luck.length + m.length) * 8 ≤ 140737488355328) :
    Calls Tryz.prog 27 #[.pointer (some ⟨N, 0, none⟩), v] w2 fun e w' => (∃ x, e = .returned x) ∧ RL W0 w' L (luckL S m) := by
  obtain ⟨p, h1, h2, h3⟩ := h.opened hb
  have hc := h1.link.cell (o := 0) rfl
  obtain ⟨p0, g1, _⟩ := h
  rw [hb.cell g1.link.lt, hN] at hc
  simp only [List.getElem_toArray, List.getElem_cons_zero, Option.some.injEq, Value.pointer.injEq, Addr.mk.injEq, and_true] at hc
  subst hc
  refine (link_Luck h1 v m hv hl).mono ?_
  rintro e w' ⟨hx, hp⟩
  exact ⟨hx, h3 _ _ hp⟩
section
variable (h : RL W0 w L S) (hpr : S.prompt) (hb : Below w.heap.size w w2) (iz : Int) (nv : Value) (nodes : List Int) (hn : Is w2 nv nodes) (hnv : ∀ g, nv.ownBlock = some g → w.heap.size ≤ g ∧ g < w2.heap.size) (hnl : nodes.length ≤ 1073741824)
include h hpr hb hn hnv hnl
theorem rl_append (pos : Int) (dv : Value) (l : List UInt8) (hm : mayB S ⟨iz, nodes⟩ pos 4095 = true) (hl : l.length ≤ 65504) (hd : Bs w2 dv l) (hdv : ∀ g, dv.ownBlock = some g → w.heap.size ≤ g ∧ g < w2.heap.size) :
    Calls Tryz.prog 18 #[.pointer (some ⟨L, 0, none⟩), .agg #[.int .i64 iz, nv], .int .i64 pos, dv] w2 fun e w' => e = .returned (.int .i64 (appendL S ⟨iz, nodes⟩ pos l).1) ∧ RL W0 w' L (appendL S ⟨iz, nodes⟩ pos l).2 := by
  obtain ⟨p, h1, h2, h3⟩ := h.opened hb
  refine (log_Append h1 hpr iz nv nodes pos dv l hm hl hd (fun g hg => ⟨h2 g (hdv g hg).1, (hdv g hg).2⟩) hn hnl (fun g hg => ⟨h2 g (hnv g hg).1, (hnv g hg).2⟩)).mono ?_
  rintro e w' ⟨rfl, hp⟩
  exact ⟨rfl, h3 _ _ hp⟩
theorem rl_trim (pos : Int) (hm : mayB S ⟨iz, nodes⟩ pos 4096 = true) :
    Calls Tryz.prog 21 #[.pointer (some ⟨L, 0, none⟩), .agg #[.int .i64 iz, nv], .int .i64 pos] w2 fun e w' => e = .returned (.int .i64 (trimL S ⟨iz, nodes⟩ pos).1) ∧ RL W0 w' L (trimL S ⟨iz, nodes⟩ pos).2 := by
  obtain ⟨p, h1, h2, h3⟩ := h.opened hb
  refine (log_Trim h1 hpr iz nv nodes pos hm hn hnl (fun g hg => ⟨h2 g (hnv g hg).1, (hnv g hg).2⟩)).mono ?_
  rintro e w' ⟨rfl, hp⟩
  exact ⟨rfl, h3 _ _ hp⟩
theorem rl_seal (hm : mayB S ⟨iz, nodes⟩ 0 0 = true) :
    Calls Tryz.prog 20 #[.pointer (some ⟨L, 0, none⟩), .agg #[.int .i64 iz, nv]] w2 fun e w' => e = .returned (.tuple #[.int .i64 (sealL S ⟨iz, nodes⟩).1, .int .i64 (sealL S ⟨iz, nodes⟩).2.1]) ∧ RL W0 w' L (sealL S ⟨iz, nodes⟩).2.2 := by
  obtain ⟨p, h1, h2, h3⟩ := h.opened hb
  refine (log_Seal h1 hpr iz nv nodes hm hn hnl (fun g hg => ⟨h2 g (hnv g hg).1, (hnv g hg).2⟩)).mono ?_
  rintro e w' ⟨rfl, hp⟩
  exact ⟨rfl, h3 _ _ hp⟩
theorem rl_repair (fa tb : Int) (hm : mayB S ⟨iz, nodes⟩ fa tb = true) (htb : tb ≤ 4096) (hok : placesOk ⟨iz, nodes⟩ (tb - fa).toNat S fa) :
    Calls Tryz.prog 24 #[.pointer (some ⟨L, 0, none⟩), .agg #[.int .i64 iz, nv], .int .i64 fa, .int .i64 tb] w2 fun e w' => e = .returned (.int .i64 (repairL S ⟨iz, nodes⟩ fa tb).1) ∧ RL W0 w' L (repairL S ⟨iz, nodes⟩ fa tb).2 := by
  obtain ⟨p, h1, h2, h3⟩ := h.opened hb
  refine (log_Repair h1 hpr iz nv nodes fa tb hm htb hn hnl (fun g hg => ⟨h2 g (hnv g hg).1, (hnv g hg).2⟩) hok).mono ?_
  rintro e w' ⟨rfl, hp⟩
  exact ⟨rfl, h3 _ _ hp⟩
/-- What is read lies in a block of its own, behind all that was. -/
theorem rl_read (pos : Int) (hm : mayB S ⟨iz, nodes⟩ pos 4095 = true) :
    Calls Tryz.prog 19 #[.pointer (some ⟨L, 0, none⟩), .agg #[.int .i64 iz, nv], .int .i64 pos] w2 fun e w' => ∃ v p', e = .returned (.tuple #[v, .int .i64 (readL S ⟨iz, nodes⟩ pos).2.1]) ∧ LkAt w' L p' (readL S ⟨iz, nodes⟩ pos).2.2 ∧ Below W0.heap.size W0 w' ∧ (∀ b, p'.all L b → W0.heap.size ≤ b) ∧ Bs w' v (readL S ⟨iz, nodes⟩ pos).1 ∧ ∀ g, v.ownBlock = some g → ¬ p'.all L g ∧ g < w'.heap.size ∧ W0.heap.size ≤ g := by
  have hw0 := (h.keep hb).below
  obtain ⟨p, h1, h2, h3⟩ := h
  refine (log_Read (h1.keep hb) hpr iz nv nodes pos hm hn hnl (fun g hg => ⟨fun hc => by have := h1.size hc; have := (hnv g hg).1; omega, (hnv g hg).2⟩)).mono ?_
  rintro e w' ⟨v, p', rfl, g1, g2, g3, g4, g5⟩
  refine ⟨v, p', rfl, g1, hw0.trans (g3.belowOf hw0.size (fun b hb hc => by have := h3 b hc; omega)), fun b hb => (g2 b hb).elim (h3 b) (fun h => Nat.le_trans hw0.size h), g4, fun g hg => ⟨(g5 g hg).1, (g5 g hg).2.2, Nat.le_trans hw0.size (g5 g hg).2.1⟩⟩
end
end
/-! The luck that waits stays prompt. -/
theorem luckL_prompt {s : LkS} (h : s.prompt) {m : List Int} (hm : ∀ x ∈ m, mod5 x ≠ 3) : (luckL s m).prompt := by
  intro x hx
  have hx2 : x ∈ s.luck ++ m := hx
  rcases List.mem_append.1 hx2 with h1 | h1
  · exact h x h1
  · exact hm x h1
theorem appendL_prompt {s : LkS} (h : s.prompt) (c : Cfg) (pos : Int) (l : List UInt8) : (appendL s c pos l).2.prompt := by
  unfold appendL
  split
  · split
    · exact h
    · exact repliesL_prompt c.nodes h
  · exact h
theorem sealL_prompt {s : LkS} (h : s.prompt) (c : Cfg) : (sealL s c).2.2.prompt := by
  unfold sealL
  split
  · split
    · exact repliesL_prompt c.nodes h
    · exact repliesL_prompt c.nodes h
  · exact h
theorem placesL_prompt (c : Cfg) : ∀ (j : Nat) {s : LkS} (_ : s.prompt) (pos : Int), (placesL c j s pos).2.prompt
  | 0, _, h, _ => h
  | j + 1, s, h, pos => by
    unfold placesL
    split
    · exact placesL_prompt c j (placeL_prompt h c pos) (pos + 1)
    · exact placeL_prompt h c pos
theorem repairL_prompt {s : LkS} (h : s.prompt) (c : Cfg) (a b : Int) : (repairL s c a b).2.prompt := by
  unfold repairL
  split
  · exact placesL_prompt c _ h a
  · exact h
end Go.Proofs.YtbahjinlcbjikaaGreat

/-! Package node: Stop, at a node of a link. -/
namespace Go.Proofs.YtbahjinlcbjikaaGreat
open Go.RowKit

section
variable {W : World} {L : Nat} {p : LkP} {s : LkS}
set_option maxHeartbeats 1600000 in
theorem node_Stop {n d : Nat} {v : Value} (h : Blk W n #[.pointer (some ⟨d, 0, none⟩), v] 99) :
    Calls Tryz.prog 17 #[.pointer (some ⟨n, 0, none⟩)] W fun e w' => (∃ x, e = .returned x) ∧ Blk w' n #[.pointer (some ⟨d, 0, none⟩), .pointer none] 99 ∧ Ext (fun b => b = n) W w' := by
  have c0 := h.cell (o := 0) rfl
  have HN : Calls Tryz.prog 37 #[.pointer (some ⟨n, 0, none⟩)] W fun e w' => e = .returned (.bool false) ∧ w' = W := by
    go_enter Tryz.func37, Tryz.ntmps37
    go_wp2_with fail
    go_ret
    exact ⟨rfl, rfl⟩
  have HN := hid HN
  have c1 := h.cell (o := 1) rfl
  have f1 := h.free 1
  have k1 := h.set (o := 1) (.pointer none)
  simp only [List.setIfInBounds_toArray, List.set_cons_zero, List.set_cons_succ] at k1
  have HF := hid (And.intro k1 ((Ext.refl (fun b => b = n) W).setCell (a := ⟨n, 1, none⟩) (.inl rfl) (.pointer none)))
  clear h c0 k1
  go_enter Tryz.func17, Tryz.ntmps17
  go_wp2_with fail
  refine HN.out.mono ?_
  rintro e Wx ⟨rfl, hw⟩
  rw [hw]
  clear hw Wx
  go_wp2_with fail
  go_end0
  exact ⟨⟨_, rfl⟩, HF.out⟩
/-- A node of a link is stopped. -/
theorem link_Stop (h : LkAt W L p s) {i n d : Nat} {u : Value} (hi : i < s.nds.length) (hv : p.vs[i]? = some (.pointer (some ⟨n, 0, none⟩))) (hown : p.ow i n) (hc : Blk W n #[.pointer (some ⟨d, 0, none⟩), u] 99) :
    Calls Tryz.prog 17 #[.pointer (some ⟨n, 0, none⟩)] W fun e w' => (∃ x, e = .returned x) ∧ LkAt w' L p ⟨s.luck, s.nds.set i none⟩ ∧ Ext (fun b => b = n) W w' := by
  refine (node_Stop hc).mono ?_
  rintro e w' ⟨hx, hk, he⟩
  have hne : ∀ b, b ≠ n → ¬ b = n := fun b h => h
  have hon := h.owd i n hown
  refine ⟨hx, ⟨?_, h.net.ext he (fun e => hon.2.1 e.symm), h.luck.ext he (fun k hk e => (h.lvd k hk).2.2.2 i (by have e2 : k = n := e; rw [e2]; exact hown)), ?_, ?_, ?_, ?_, h.dis, h.base, h.lvd, h.owd, fun j b hb => Nat.lt_of_lt_of_le (h.lt j b hb) he.size⟩, he⟩
  · simp only [List.length_set]
    exact h.link.ext he (fun e => hon.1 e.symm)
  · obtain ⟨cs, hcs, hvs⟩ := h.arr
    exact ⟨cs, hcs.ext he (fun e => hon.2.2 e.symm), hvs⟩
  · simp only [List.length_set]; exact h.len
  · simp only [List.length_set]; exact h.few
  · intro j e9 hd
    simp only at hd
    by_cases hj : j = i
    · subst hj
      rw [List.getElem?_set_self hi] at hd
      cases hd
      exact ⟨_, hv, .inr ⟨n, _, rfl, hk, hown⟩⟩
    · rw [List.getElem?_set_ne (fun e => hj e.symm)] at hd
      obtain ⟨v, e1, e2⟩ := h.nds j e9 hd
      exact ⟨v, e1, e2.ext he (fun b hb e => hj (h.dis j i b hb (by have e3 : b = n := e; rw [e3]; exact hown)))⟩
end
end Go.Proofs.YtbahjinlcbjikaaGreat

/-! gazettelaw07.knows answers true. -/
namespace Go.Proofs.YtbahjinlcbjikaaGreat
open Go.RowKit

def S1 : LkS := luckL L0 [0, 0, 1]
def S2 : LkS := luckL L1.2 [0, 1, 1]
theorem mod5_small {x : Int} (h : x = 0 ∨ x = 1) : mod5 x ≠ 3 := by
  rcases h with rfl | rfl <;> decide
theorem l0_prompt : L0.prompt := fun x hx => by cases hx
theorem s1_prompt : S1.prompt := luckL_prompt l0_prompt (fun x hx => mod5_small (by simp at hx; omega))
theorem s2_prompt : S2.prompt := luckL_prompt (appendL_prompt s1_prompt _ _ _) (fun x hx => mod5_small (by simp at hx; omega))
theorem l2_prompt : L2.2.prompt := appendL_prompt s2_prompt _ _ _
theorem l3_prompt : L3.2.2.prompt := sealL_prompt l2_prompt _
theorem l4_prompt : L4.2.prompt := repairL_prompt l3_prompt _ _ _
set_option maxRecDepth 100000 in
theorem s1_may : mayB S1 ⟨1, [0, 1, 2]⟩ 0 4095 = true := by kernel_rfl
set_option maxRecDepth 100000 in
theorem s2_may : mayB S2 ⟨1, [0, 1, 2]⟩ 1 4095 = true := by kernel_rfl
set_option maxRecDepth 100000 in
theorem s3_may : mayB L2.2 ⟨1, [0, 1, 2]⟩ 0 0 = true := by kernel_rfl
set_option maxRecDepth 100000 in
theorem s4_may : mayB L3.2.2 ⟨1, [0, 1, 2]⟩ 0 2 = true := by kernel_rfl
set_option maxRecDepth 100000 in
theorem s5_may : mayB L4.2 ⟨1, [0, 1, 2]⟩ 1 4095 = true := by kernel_rfl
set_option maxRecDepth 100000 in
theorem l1_luck : L1.2.luck.length = 0 := by kernel_rfl
theorem copies_ne {l : List (List UInt8)} (h : l.isEmpty = false) : l ≠ [] := by rintro rfl; cases h
set_option maxRecDepth 100000 in
theorem s4_ok0 : (copiesL (repliesL L3.2.2 4 1 0 [] [0, 1, 2]).1).isEmpty = false := by kernel_rfl
set_option maxRecDepth 100000 in
theorem s4_ok1 : (copiesL (repliesL (placeL L3.2.2 ⟨1, [0, 1, 2]⟩ 0).2 4 1 (0 + 1) [] [0, 1, 2]).1).isEmpty = false := by kernel_rfl
theorem s4_ok : placesOk ⟨1, [0, 1, 2]⟩ 2 L3.2.2 0 := ⟨.inr (copies_ne s4_ok0), fun _ => ⟨.inr (copies_ne s4_ok1), fun _ => trivial⟩⟩
theorem e1 : appendL S1 ⟨1, [0, 1, 2]⟩ 0 [97] = L1 := rfl
theorem e2 : appendL S2 ⟨1, [0, 1, 2]⟩ 1 [98] = L2 := rfl
theorem e3 : sealL L2.2 ⟨1, [0, 1, 2]⟩ = L3 := rfl
theorem e4 : repairL L3.2.2 ⟨1, [0, 1, 2]⟩ 0 2 = L4 := rfl
theorem e5 : readL L4.2 ⟨1, [0, 1, 2]⟩ 1 = L5 := rfl

section
variable {W : World}
set_option maxRecDepth 100000 in
set_option maxHeartbeats 12800000 in
theorem law7_knows : Calls Tryz.prog 14 #[] W fun e w' => e = .returned (.bool true) ∧ Below W.heap.size W w' := by
  have hz0 : wrap64 0 = 0 := by unfold wrap64; omega
  go_enter Tryz.func14, Tryz.ntmps14
  go_wp2_with fail
  refine (law7_Nodes 3 20 (by decide) (by decide) (by decide) (by decide)).mono ?_
  rintro e A0 ⟨L, p0, rfl, hL0, b0, ha0⟩
  have R0 : RL W A0 L L0 := ⟨p0, hL0, b0, ha0⟩
  obtain ⟨N0, c0⟩ := R0.net
  have HR0 := hid R0
  obtain ⟨A1, hA1⟩ : ∃ V, A0.alloc (.cells #[.int .i64 0, .int .i64 0, .int .i64 1] 3) = V := ⟨_, rfl⟩
  have bA1 : Below A0.heap.size A0 A1 := by rw [← hA1]; exact (Below.refl _ _).alloc (Nat.le_refl _) _
  have kA1 : Blk A1 A0.heap.size #[.int .i64 0, .int .i64 0, .int .i64 1] 3 := by rw [← hA1]; exact Blk.new _ _ _
  have HC := hid (rl_luck R0 N0 c0 bA1 (.slice (some ⟨A0.heap.size, 0, none⟩) 3 3) [0, 0, 1] (is_lit (es := [0, 0, 1]) kA1) (by decide))
  clear R0 hL0 b0 ha0 bA1 kA1
  go_wp2_with fail
  refine HC.out.mono ?_
  rintro e A2 ⟨⟨x2, rfl⟩, R2⟩
  clear hA1 HC HR0 c0
  have R2 : RL W A2 L S1 := R2
  have HR2 := hid R2
  clear R2
  go_wp2_with fail
  refine (law7_three _).mono ?_
  rintro e A3 ⟨nv3, rfl, hn3, hnv3, bt3⟩
  obtain ⟨A4, hA4⟩ : ∃ V, (A3.alloc (.cells #[.int .u8 97] 5)).freeze ⟨A3.heap.size, 1, none⟩ 1 = V := ⟨_, rfl⟩
  have bA4 : Below A3.heap.size A3 A4 := litA_below hA4
  have hcv4 := litA_conv hA4
  have bs4 := litA_bs 97 97 rfl hA4
  have hs4 : A3.heap.size < A4.heap.size := by obtain ⟨_, _, e9, _, _, _, _, hr9⟩ := bs4; obtain ⟨ad, e8, hc8⟩ := hr9 0 97 rfl; have h7 := World.block_lt_of_cell? A4 _ hc8; injection e9 with e9; rw [e8] at e9; injection e9 with e9; rw [← e9] at h7; exact h7
  have HC := hid (rl_append HR2.out s1_prompt (bt3.trans (bA4.mono bt3.size)) 1 nv3 [0, 1, 2] (hn3.keep bA4) (fun g hg => ⟨(hnv3 g hg).1, Nat.lt_of_lt_of_le (hnv3 g hg).2 bA4.size⟩) (by decide) 0 (.slice (some ⟨A3.heap.size, 0, none⟩) 1 1) [97] s1_may (by decide) bs4 (fun g hg => by cases hg; exact ⟨bt3.size, hs4⟩))
  clear hn3 hnv3 bt3 bA4 bs4 hs4 HR2 hA4
  go_wp2_with fail
  refine HC.out.mono ?_
  rw [e1]
  rintro e A5 ⟨rfl, R5⟩
  rw [l1_told]
  clear HC hcv4
  obtain ⟨N5, c5⟩ := R5.net
  obtain ⟨A6, hA6⟩ : ∃ V, A5.alloc (.cells #[.int .i64 0, .int .i64 1, .int .i64 1] 3) = V := ⟨_, rfl⟩
  have bA6 : Below A5.heap.size A5 A6 := by rw [← hA6]; exact (Below.refl _ _).alloc (Nat.le_refl _) _
  have kA6 : Blk A6 A5.heap.size #[.int .i64 0, .int .i64 1, .int .i64 1] 3 := by rw [← hA6]; exact Blk.new _ _ _
  have HC := hid (rl_luck R5 N5 c5 bA6 (.slice (some ⟨A5.heap.size, 0, none⟩) 3 3) [0, 1, 1] (is_lit (es := [0, 1, 1]) kA6) (by rw [l1_luck]; decide))
  clear R5 bA6 kA6
  go_wp2_with fail
  refine HC.out.mono ?_
  rintro e A7 ⟨⟨x7, rfl⟩, R7⟩
  clear hA6 HC c5
  have R7 : RL W A7 L S2 := R7
  have HR7 := hid R7
  clear R7
  go_wp2_with fail
  refine (law7_three _).mono ?_
  rintro e A8 ⟨nv8, rfl, hn8, hnv8, bt8⟩
  obtain ⟨A9, hA9⟩ : ∃ V, (A8.alloc (.cells #[.int .u8 98] 5)).freeze ⟨A8.heap.size, 1, none⟩ 1 = V := ⟨_, rfl⟩
  have bA9 : Below A8.heap.size A8 A9 := litA_below hA9
  have hcv9 := litA_conv hA9
  have bs9 := litA_bs 98 98 rfl hA9
  have hs9 : A8.heap.size < A9.heap.size := by obtain ⟨_, _, e9, _, _, _, _, hr9⟩ := bs9; obtain ⟨ad, e8, hc8⟩ := hr9 0 98 rfl; have h7 := World.block_lt_of_cell? A9 _ hc8; injection e9 with e9; rw [e8] at e9; injection e9 with e9; rw [← e9] at h7; exact h7
  have HC := hid (rl_append HR7.out s2_prompt (bt8.trans (bA9.mono bt8.size)) 1 nv8 [0, 1, 2] (hn8.keep bA9) (fun g hg => ⟨(hnv8 g hg).1, Nat.lt_of_lt_of_le (hnv8 g hg).2 bA9.size⟩) (by decide) 1 (.slice (some ⟨A8.heap.size, 0, none⟩) 1 1) [98] s2_may (by decide) bs9 (fun g hg => by cases hg; exact ⟨bt8.size, hs9⟩))
  clear hn8 hnv8 bt8 bA9 bs9 hs9 HR7 hA9
  go_wp2_with fail
  refine HC.out.mono ?_
  rw [e2]
  rintro e B0 ⟨rfl, R10⟩
  rw [l2_told]
  clear HC hcv9
  have HR10 := hid R10
  clear R10
  go_wp2_with fail
  refine (law7_three _).mono ?_
  rintro e B1 ⟨nv11, rfl, hn11, hnv11, bt11⟩
  have HC := hid (rl_seal HR10.out l2_prompt bt11 1 nv11 [0, 1, 2] hn11 hnv11 (by decide) s3_may)
  clear hn11 hnv11 bt11 HR10
  go_wp2_with fail
  refine HC.out.mono ?_
  rw [e3]
  rintro e B2 ⟨rfl, R12⟩
  rw [l3_told.1, l3_told.2]
  clear HC
  have HR12 := hid R12
  clear R12
  go_wp2_with fail
  refine (law7_three _).mono ?_
  rintro e B3 ⟨nv13, rfl, hn13, hnv13, bt13⟩
  have HC := hid (rl_repair HR12.out l3_prompt bt13 1 nv13 [0, 1, 2] hn13 hnv13 (by decide) 0 2 s4_may (by decide) s4_ok)
  clear hn13 hnv13 bt13 HR12
  go_wp2_with fail
  refine HC.out.mono ?_
  rw [e4]
  rintro e B4 ⟨rfl, R14⟩
  rw [l4_told]
  clear HC
  have HR14 := hid R14
  clear R14
  go_wp2_with fail
  refine (law7_three _).mono ?_
  rintro e B5 ⟨nv15, rfl, hn15, hnv15, bt15⟩
  have HC := hid (rl_read HR14.out l4_prompt bt15 1 nv15 [0, 1, 2] hn15 hnv15 (by decide) 1 s5_may)
  clear hn15 hnv15 bt15 HR14
  go_wp2_with fail
  refine HC.out.mono ?_
  rw [e5]
  rintro e B6 ⟨v6, p6, rfl, hl6, b6, ha6, bs6, ho6⟩
  rw [l5_told.1] at bs6
  rw [l5_told.2]
  clear HC
  obtain ⟨a6, c6, rfl⟩ := bs6.form
  have hcv6 : (convert 35 9 (.slice a6 [98].length c6)).run Tryz.prog B6 = .ok (.string ⟨([98] : List UInt8).toArray⟩) B6 := run_bytes_string (P := Tryz.prog) Tryz.underlying35 Tryz.underlying5 Tryz.underlying9 bs6
  simp only [List.length_cons, List.length_nil, Nat.zero_add] at hcv6
  have HB := hid b6
  clear hl6 b6 ha6 bs6 ho6
  go_wp2_with fail
  refine (law7_num 0 _).mono ?_
  rintro e w9 ⟨rfl, hw9⟩
  rw [hw9]
  clear hw9 w9
  go_wp2_with fail
  refine (law7_num 0 _).mono ?_
  rintro e w9 ⟨rfl, hw9⟩
  rw [hw9]
  clear hw9 w9
  go_wp2_with fail
  refine (law7_num 0 _).mono ?_
  rintro e w9 ⟨rfl, hw9⟩
  rw [hw9]
  clear hw9 w9
  go_wp2_with fail
  refine (law7_num 0 _).mono ?_
  rintro e w9 ⟨rfl, hw9⟩
  rw [hw9]
  clear hw9 w9
  go_wp2_with fail
  refine (law7_num 33 _).mono ?_
  rintro e w9 ⟨rfl, hw9⟩
  rw [hw9]
  clear hw9 w9
  go_wp2_with fail
  go_ret
  exact ⟨rfl, HB.out⟩
end
end Go.Proofs.YtbahjinlcbjikaaGreat
