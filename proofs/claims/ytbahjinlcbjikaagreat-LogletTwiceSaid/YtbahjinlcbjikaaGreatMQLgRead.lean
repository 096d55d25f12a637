import Derived.Test.YtbahjinlcbjikaaGreatQPlace
/-! Package loglet: Repair. -/
namespace Go.Proofs.YtbahjinlcbjikaaGreat
open Go.RowKit

def placesOk (c : Cfg) : Nat → LkS → Int → Prop
  | 0, _, _ => True
  | j + 1, s, pos => (0 < cntE 32 (repliesL s 4 c.id pos [] c.nodes).1 ∨ copiesL (repliesL s 4 c.id pos [] c.nodes).1 ≠ []) ∧ ((placeL s c pos).1 = 0 → placesOk c j (placeL s c pos).2 (pos + 1))
theorem placeL_late (s : LkS) (c : Cfg) (pos : Int) : (placeL s c pos).2.net.late.length ≤ s.net.late.length + 2 * c.nodes.length := by
  have h1 := repliesL_late (k := 4) (lo := c.id) (po := pos) (l := []) c.nodes s
  unfold placeL
  split
  · show (repliesL s 4 c.id pos [] c.nodes).2.net.late.length ≤ _
    omega
  · split
    · show (repliesL s 4 c.id pos [] c.nodes).2.net.late.length ≤ _
      omega
    · rename_i x _ _
      have h2 := repliesL_late (k := 2) (lo := c.id) (po := pos) (l := x) c.nodes (repliesL s 4 c.id pos [] c.nodes).2
      show (repliesL (repliesL s 4 c.id pos [] c.nodes).2 2 c.id pos x c.nodes).2.net.late.length ≤ _
      omega
theorem mayB_nodes {s : LkS} {c : Cfg} {a b : Int} (h : mayB s c a b = true) : c.nodes.length ≤ 9 := by
  unfold mayB checkB at h
  simp only [Bool.and_eq_true, decide_eq_true_eq] at h
  exact h.1.2.2.2.1
theorem LkPost.of {W W1 w' : World} {L : Nat} {p p1 : LkP} {s' : LkS} (h : LkPost W1 L p1 s' w') (hg : ∀ b, p1.all L b → p.all L b ∨ W.heap.size ≤ b) (hx : Ext (p.all L) W W1) : LkPost W L p s' w' := by
  obtain ⟨p', h1, h2, h3⟩ := h
  exact ⟨p', h1, fun b hb => (h2 b hb).elim (hg b) (fun h => .inr (Nat.le_trans hx.size h)), hx.trans h3 hg⟩
section
variable {W : World} {L : Nat} {p : LkP} {s : LkS}
set_option maxRecDepth 100000 in
set_option maxHeartbeats 6400000 in
theorem log_Repair (h : LkAt W L p s) (hpr : s.room 2200000000) (iz : Int) (nv : Value) (nodes : List Int) (fa tb : Int) (hm : mayB s ⟨iz, nodes⟩ fa tb = true) (htb : tb ≤ 4096) (hn : Is W nv nodes) (hnl : nodes.length ≤ 1073741824) (k4 : ∀ g, nv.ownBlock = some g → ¬ p.all L g ∧ g < W.heap.size) (hok : placesOk ⟨iz, nodes⟩ (tb - fa).toNat s fa) :
    Calls Tryz.prog 24 #[.pointer (some ⟨L, 0, none⟩), .agg #[.int .i64 iz, nv], .int .i64 fa, .int .i64 tb] W fun e w' => e = .returned (.int .i64 (repairL s ⟨iz, nodes⟩ fa tb).1) ∧ LkPost W L p (repairL s ⟨iz, nodes⟩ fa tb).2 w' := by
  have hn9 : nodes.length ≤ 9 := mayB_nodes hm
  have hS : repairL s ⟨iz, nodes⟩ fa tb = placesL ⟨iz, nodes⟩ (tb - fa).toNat s fa := by
    unfold repairL
    rw [if_pos ⟨hm, htb⟩]
  rw [hS]
  clear hS
  have hfa : 0 ≤ fa ∧ fa ≤ tb := by
    unfold mayB at hm
    rw [Bool.and_eq_true] at hm
    exact of_decide_eq_true hm.2
  obtain ⟨N, hN⟩ : ∃ N, (tb - fa).toNat = N := ⟨_, rfl⟩
  rw [hN] at hok ⊢
  have hNb : fa + (N : Int) = tb := by omega
  clear hN
  obtain ⟨na, nc, hnv⟩ : ∃ a c, nv = .slice a nodes.length c := by obtain ⟨a, c, e, _⟩ := hn; exact ⟨a, c, e⟩
  subst hnv
  obtain ⟨W1, hW1⟩ : ∃ W1, W.alloc (.cells #[.int .i64 iz, .slice na nodes.length nc] 24) = W1 := ⟨_, rfl⟩
  have KB : Blk W1 W.heap.size #[.int .i64 iz, .slice na nodes.length nc] 24 := by rw [← hW1]; exact Blk.new _ _ _
  have b1 : Below W.heap.size W W1 := by rw [← hW1]; exact (Below.refl _ _).alloc (Nat.le_refl _) _
  have c0 := KB.cell (o := 0) rfl
  have c1 := KB.cell (o := 1) rfl
  have hs1 : W1.heap.size = W.heap.size + 1 := by rw [← hW1]; simp
  have HMAY := hid (link_may (h.keep b1) iz _ nodes fa tb (hn.keep b1) hnl hm)
  have HPL := hid (show ∀ b, p.all L b → b < W.heap.size from fun b hb => h.size hb)
  have HH := hid (And.intro h (And.intro hn k4))
  have HOK := hid hok
  clear hn k4 h hm hok
  go_enter Tryz.func24, Tryz.ntmps24
  go_wp2_with fail
  refine HMAY.out.mono ?_
  rintro e W2 ⟨rfl, b2⟩
  clear HMAY hW1 c0 c1
  have KB2 := KB.keep b2
  have b02 := b1.trans (b2.mono b1.size)
  have hs2 := b2.size
  have HB := hid (And.intro KB2 b02)
  clear KB KB2 b1 b2 b02
  go_wp2_with fail
  all_goals first | (exfalso; omega) | skip
  go_loopw [9] (fun i wr => ∃ (k : Nat) (pos : Int) (p' : LkP) (s' : LkS), k ≤ N ∧ i = .int .i64 pos ∧ pos = fa + (k : Int) ∧ LkAt wr L p' s' ∧ s'.room (2200000000 - 18 * k) ∧ (∀ b, p'.all L b → p.all L b ∨ W.heap.size ≤ b) ∧ Ext (p.all L) W wr ∧ placesL ⟨iz, nodes⟩ N s fa = placesL ⟨iz, nodes⟩ (N - k) s' pos ∧ placesOk ⟨iz, nodes⟩ (N - k) s' pos ∧ Blk wr W.heap.size #[.int .i64 iz, .slice na nodes.length nc] 24 ∧ ¬ p'.all L W.heap.size) (fun i _ => (tb - intOf i).toNat)
  case atStart => exact ⟨0, fa, p, s, Nat.zero_le _, rfl, by omega, HH.out.1.keep HB.out.2, hpr, fun b hb => .inl hb, Ext.ofBelow HB.out.2, by rw [Nat.sub_zero], by rw [Nat.sub_zero]; exact HOK.out, HB.out.1, fun hc => by have := HPL.out _ hc; omega⟩
  case round =>
    obtain ⟨k, pos, p', s', hk, rfl, hpos, hL, hp', hg, hx, heq, hok, hB, hnb⟩ := hrel
    by_cases hlt : k < N
    · have hd1 : decide (pos < tb) = true := decide_eq_true (by omega)
      obtain ⟨j, hj⟩ : ∃ j, N - k = j + 1 := ⟨N - k - 1, by omega⟩
      rw [hj] at heq hok
      have c0 := hB.cell (o := 0) rfl
      have c1 := hB.cell (o := 1) rfl
      have HP := hid (link_place hL (hp'.le (by omega)) iz (.slice na nodes.length nc) nodes pos (HH.out.2.1.ext hx (fun g hg9 _ hc => (HH.out.2.2 g hg9).1 hc)) hnl (fun g hg9 => ⟨fun hc => (hg g hc).elim (HH.out.2.2 g hg9).1 (fun h => by have := (HH.out.2.2 g hg9).2; omega), by have := (HH.out.2.2 g hg9).2; have := hx.size; omega⟩) hok.1)
      have hpp : (placeL s' ⟨iz, nodes⟩ pos).2.room (2200000000 - 18 * (k + 1)) := by
        have h1 := placeL_late s' ⟨iz, nodes⟩ pos
        have h3 : (⟨iz, nodes⟩ : Cfg).nodes.length = nodes.length := rfl
        unfold LkS.room at *
        omega
      have HR := hid (And.intro hg (And.intro hx (And.intro heq (And.intro hok.2 (And.intro hB (And.intro hnb hpp))))))
      have hsx := hx.size
      have hw : wrap64 (pos + 1) = pos + 1 := by unfold wrap64; omega
      have HPOS := hid hpos
      clear hL hp' hg hx heq hok hB hnb hpp hpos
      go_wp2_with fail
      refine HP.out.mono ?_
      rintro e w2 ⟨rfl, hpost⟩
      obtain ⟨r, hr⟩ : ∃ r, placeL s' ⟨iz, nodes⟩ pos = r := ⟨_, rfl⟩
      rw [hr] at hpost ⊢
      have HR2 := hid hr
      have HPO := hid hpost
      clear hr hpost c0 c1 HP
      by_cases he : r.1 = 0
      · have he2 : (r.1 == 0) = true := beq_iff_eq.2 he
        have HE := hid he
        clear he
        go_wp2_with fail
        go_roundw
        case rel =>
          obtain ⟨g1, g2, g3, g4, g5, g6, g7⟩ := HR.out
          obtain ⟨p2, q1, q2, q3⟩ := HPO.out
          rw [HR2.out] at g4 g7
          have hpos := HPOS.out
          refine ⟨k + 1, pos + 1, p2, r.2, by omega, congrArg _ hw, by omega, q1, g7, fun b hb => (q2 b hb).elim (g1 b) (fun h => .inr (by omega)), g2.trans q3 g1, ?_, ?_, g5.ext q3 g6, fun hc => (q2 _ hc).elim g6 (fun h => by have := g5.lt; omega)⟩
          · rw [g3, show N - (k + 1) = j from by omega]
            show (if (placeL s' ⟨iz, nodes⟩ pos).1 = 0 then placesL ⟨iz, nodes⟩ j (placeL s' ⟨iz, nodes⟩ pos).2 (pos + 1) else placeL s' ⟨iz, nodes⟩ pos) = _
            rw [HR2.out, if_pos HE.out]
          · rw [show N - (k + 1) = j from by omega]
            exact g4 HE.out
        case measure => have hpos := HPOS.out; simp [intOf]; omega
      · have he2 : (r.1 == 0) = false := beq_eq_false_iff_ne.2 he
        have HE := hid he
        clear he
        go_wp2_with fail
        go_ret
        obtain ⟨g1, g2, g3, g4, g5, g6, g7⟩ := HR.out
        have hfin : placesL ⟨iz, nodes⟩ N s fa = r := by
          rw [g3]
          show (if (placeL s' ⟨iz, nodes⟩ pos).1 = 0 then placesL ⟨iz, nodes⟩ j (placeL s' ⟨iz, nodes⟩ pos).2 (pos + 1) else placeL s' ⟨iz, nodes⟩ pos) = _
          rw [HR2.out, if_neg HE.out]
        rw [hfin]
        exact ⟨rfl, HPO.out.of g1 g2⟩
    · have hd1 : decide (pos < tb) = false := decide_eq_false (by omega)
      have hfin : placesL ⟨iz, nodes⟩ N s fa = (0, s') := by
        rw [heq, show N - k = 0 from by omega]
        rfl
      have HF := hid (And.intro hfin (And.intro hL (And.intro hg hx)))
      clear hfin hL hg hx heq hok hB hnb hp' hpos
      go_wp2_with fail
      go_ret
      rw [HF.out.1]
      obtain ⟨_, g1, g2, g3⟩ := HF.out
      exact ⟨rfl, p', g1, g2, g3⟩
end
end Go.Proofs.YtbahjinlcbjikaaGreat

/-! Package loglet: Read. -/
namespace Go.Proofs.YtbahjinlcbjikaaGreat
open Go.RowKit
attribute [local go_sem] Oper.semAt_some

theorem askD_len {d : Nds} {k lo po : Int} {l : List UInt8} {r : LRp} (h : (askD d k lo po l).1 = some r) : r.b.length ≤ 65504 := by
  unfold askD at h
  split at h
  · cases h
  · simp only at h
    split at h
    · rename_i ht
      injection h with h
      subst h
      have := of_decide_eq_true ht
      exact this.2.2.2.2
    · cases h
theorem askN_len {k lo po : Int} {l : List UInt8} {r : LRp} : ∀ (t : Nat) {d : Nds}, (askN k lo po l t d).1 = some r → r.b.length ≤ 65504
  | 0, d, h => by cases h
  | t + 1, d, h => askD_len h
theorem askL_len {s : LkS} {to k lo po : Int} {l : List UInt8} {r : LRp} (h : (askL s to k lo po l).1 = some r) : r.b.length ≤ 65504 := by
  unfold askL at h
  split at h
  · simp only at h
    split at h
    · exact askN_len _ h
    · cases h
  · cases h
theorem repliesL_len {k lo po : Int} {l : List UInt8} : ∀ (ns : List Int) (s : LkS) (r : LRp), r ∈ (repliesL s k lo po l ns).1 → r.b.length ≤ 65504
  | [], s, r, h => by cases h
  | n :: ns, s, r, h => by
    simp only [repliesL, List.mem_append, Option.mem_toList] at h
    rcases h with h | h
    · exact askL_len h
    · exact repliesL_len ns _ r h
theorem readL_none {s : LkS} {c : Cfg} {pos : Int} (hm : mayB s c pos 4095 = true) (h : ∀ r ∈ (repliesL s 4 c.id pos [] c.nodes).1, r.e ≠ 0) :
    readL s c pos = ([], if 0 < cntE 32 (repliesL s 4 c.id pos [] c.nodes).1 then 32 else if c.nodes.length ≤ cntE 3 (repliesL s 4 c.id pos [] c.nodes).1 then 3 else 33, (repliesL s 4 c.id pos [] c.nodes).2) := by
  unfold readL
  rw [if_pos hm, reads_replies _ _ _ _ h]
theorem readL_some {s : LkS} {c : Cfg} {pos : Int} {j : Nat} {x : LRp} (hm : mayB s c pos 4095 = true) (h : (repliesL s 4 c.id pos [] c.nodes).1[j]? = some x) (hx : x.e = 0) (hb : ∀ i y, i < j → (repliesL s 4 c.id pos [] c.nodes).1[i]? = some y → y.e ≠ 0) :
    readL s c pos = (x.b, 0, afterL 4 c.id pos [] s c.nodes j) := by
  obtain ⟨h1, h2⟩ := reads_first c.id pos c.nodes s j x h hx hb
  unfold readL
  rw [if_pos hm, h1]
  simp only [h2]
def keptR (N2 : Nat) (nv : Value) (b : Nat) : Prop := (N2 + 2 ≤ b ∧ b < N2 + 5) ∨ nv.ownBlock = some b
theorem b5_keep {W8 W' : World} {n : Nat} (h : W8.heap.size = n) (hb : Below W8.heap.size W8 W') : Below W8.heap.size W8 W' := hb
/-- What Read gives back. -/
def ReadPost (W : World) (L : Nat) (p : LkP) (R : List UInt8 × Int × LkS) (e : Ending) (w' : World) : Prop :=
  ∃ v p', e = .returned (.tuple #[v, .int .i64 R.2.1]) ∧ LkAt w' L p' R.2.2 ∧ (∀ b, p'.all L b → p.all L b ∨ W.heap.size ≤ b) ∧ Ext (p.all L) W w' ∧ Bs w' v R.1 ∧ ∀ g, v.ownBlock = some g → ¬ p'.all L g ∧ W.heap.size ≤ g ∧ g < w'.heap.size
section
variable {W : World} {L : Nat} {p : LkP} {s : LkS}
set_option maxRecDepth 100000 in
set_option maxHeartbeats 12800000 in
theorem log_Read (h : LkAt W L p s) (hpr : s.room 1073741824) (iz : Int) (nv : Value) (nodes : List Int) (pos : Int) (hm : mayB s ⟨iz, nodes⟩ pos 4095 = true) (hn : Is W nv nodes) (hnl : nodes.length ≤ 1073741824) (k4 : ∀ g, nv.ownBlock = some g → ¬ p.all L g ∧ g < W.heap.size) :
    Calls Tryz.prog 19 #[.pointer (some ⟨L, 0, none⟩), .agg #[.int .i64 iz, nv], .int .i64 pos] W (ReadPost W L p (readL s ⟨iz, nodes⟩ pos)) := by
  obtain ⟨rs, hrs⟩ : ∃ rs, (repliesL s 4 iz pos [] nodes).1 = rs := ⟨_, rfl⟩
  have hrl : rs.length ≤ nodes.length := by rw [← hrs]; exact repliesL_length _ _
  have HRS := hid hrs
  have HRN := hid (show (∀ r ∈ rs, r.e ≠ 0) → readL s ⟨iz, nodes⟩ pos = ([], if 0 < cntE 32 rs then 32 else if nodes.length ≤ cntE 3 rs then 3 else 33, (repliesL s 4 iz pos [] nodes).2) from fun hr => by
    have := readL_none (s := s) (c := ⟨iz, nodes⟩) (pos := pos) hm (by show ∀ r ∈ (repliesL s 4 iz pos [] nodes).1, r.e ≠ 0; rw [hrs]; exact hr)
    rw [this]
    show _ = ([], if 0 < cntE 32 rs then (32 : Int) else if nodes.length ≤ cntE 3 rs then 3 else 33, (repliesL s 4 iz pos [] nodes).2)
    rw [← hrs])
  have HRF := hid (show ∀ j x, rs[j]? = some x → x.e = 0 → (∀ i y, i < j → rs[i]? = some y → y.e ≠ 0) → readL s ⟨iz, nodes⟩ pos = (x.b, 0, afterL 4 iz pos [] s nodes j) from fun j x h1 h2 h3 => by
    rw [← hrs] at h1 h3
    exact readL_some (s := s) (c := ⟨iz, nodes⟩) (pos := pos) hm h1 h2 h3)
  have HLEN := hid (show ∀ r ∈ rs, r.b.length ≤ 65504 from fun r hr => by rw [← hrs] at hr; exact repliesL_len _ _ r hr)
  obtain ⟨na, nc, hnv⟩ : ∃ a c, nv = .slice a nodes.length c := by obtain ⟨a, c, e, _⟩ := hn; exact ⟨a, c, e⟩
  subst hnv
  have hmm := @run_makeMap Tryz.prog
  obtain ⟨W1, hW1⟩ : ∃ W1, ((W.alloc (.cells #[.int .i64 iz, .slice na nodes.length nc] 24)).alloc (.cells #[.slice none 0 0] 35)).alloc (.cells #[.int .i64 0] 28) = W1 := ⟨_, rfl⟩
  have s1 : W1.heap.size = W.heap.size + 3 := by rw [← hW1]; simp
  have b1 : Below W.heap.size W W1 := by rw [← hW1]; exact (((Below.refl _ W).alloc (Nat.le_refl _) _).alloc (by simp) _).alloc (by simp; omega) _
  have qc : Blk W1 W.heap.size #[.int .i64 iz, .slice na nodes.length nc] 24 := by rw [← hW1]; exact ((Blk.new W _ _).alloc _).alloc _
  have qr : Blk W1 (W.heap.size + 1) #[.slice none 0 0] 35 := by rw [← hW1]; exact (Blk.new' _ _ (by simp) _ _).alloc _
  have qe : Blk W1 (W.heap.size + 2) #[.int .i64 0] 28 := by rw [← hW1]; exact Blk.new' _ _ (by simp) _ _
  have c0 := qc.cell (o := 0) rfl
  have c1 := qc.cell (o := 1) rfl
  have HMAY := hid (link_may (h.keep b1) iz _ nodes pos 4095 (hn.keep b1) hnl hm)
  have HQ1 := hid (And.intro qc (And.intro qr (And.intro qe b1)))
  have HH := hid (And.intro h (And.intro hn k4))
  have HPL := hid (show ∀ b, p.all L b → b < W.heap.size from fun b hb => h.size hb)
  clear h hn k4 hm qc qr qe b1
  refine callsIn_wide.1 (callsIn_of_wp_marks (n := 0) Tryz.func19 rfl trivial ?_)
  simp only [Tryz.ntmps19, List.size_toArray, List.length_cons, List.length_nil, Nat.reduceAdd, Nat.reduceSub, Array.replicate_succ, Array.replicate_zero, List.push_toArray, List.append_toArray, List.nil_append, List.cons_append]
  gi_wp2
  refine ⟨trivial, rfl, callsIn_wide.2 (HMAY.out.mono ?_)⟩
  rintro e W2 ⟨rfl, b2⟩
  clear hW1 c0 c1 HMAY
  obtain ⟨qc, qr, qe, b1⟩ := HQ1.out
  have qc := qc.keep b2
  have qr := qr.keep b2
  have qe := qe.keep b2
  have b02 := b1.trans (b2.mono b1.size)
  have hs2 : W.heap.size + 3 ≤ W2.heap.size := by have := b2.size; omega
  obtain ⟨N2, hN2⟩ : ∃ N2, W2.heap.size = N2 := ⟨_, rfl⟩
  obtain ⟨W5, hW5⟩ : ∃ W5, (W2.alloc (.map #[] 0)).alloc (.cells #[.map (some N2)] 102) = W5 := ⟨_, rfl⟩
  have s5 : W5.heap.size = N2 + 2 := by rw [← hW5]; simp [hN2]
  have b25 : Below W2.heap.size W2 W5 := by rw [← hW5]; exact ((Below.refl _ W2).alloc (Nat.le_refl _) _).alloc (by simp) _
  have qt : Blk W5 (N2 + 1) #[.map (some N2)] 102 := by rw [← hW5]; exact Blk.new' _ _ (by simp [hN2]) _ _
  have tt : TabAt W5 N2 (.int .i64 0) (fun _ => .int .i64 0) := by
    have h1 := TabAt.new W2 (.int .i64 0)
    rw [hN2] at h1
    rw [← hW5]
    exact h1.keep ((Below.refl _ _).alloc (Nat.le_refl _) _)
  have qc := qc.keep b25
  have qr := qr.keep b25
  have qe := qe.keep b25
  have b05 := b02.trans (b25.mono b02.size)
  have c0 := qc.cell (o := 0) rfl
  have c1 := qc.cell (o := 1) rfl
  have HQ5 := hid (And.intro qc (And.intro qr (And.intro qe (And.intro qt (And.intro tt b05)))))
  clear qc qr qe b1 b2 b02 b25 qt tt b05 HQ1
  gi_wp2
  refine ⟨trivial, rfl, callsIn_wide.2 ((log_replies L iz 4 0 pos na nodes.length nc none 0 0).mono ?_)⟩
  rintro e W8 ⟨rfl, hW8⟩
  have s8 : W8.heap.size = N2 + 5 := by rw [hW8]; simp [s5]
  have b58 : Below W5.heap.size W5 W8 := by rw [hW8]; exact (((Below.refl _ W5).alloc (Nat.le_refl _) _).alloc (by simp) _).alloc (by simp; omega) _
  have kl : Blk W8 (N2 + 2) #[.pointer (some ⟨L, 0, none⟩)] 36 := by rw [hW8]; exact ((Blk.new' W5 _ (by omega) _ _).alloc _).alloc _
  have kc : Blk W8 (N2 + 3) #[.int .i64 iz, .slice na nodes.length nc] 24 := by rw [hW8]; exact (Blk.new' _ _ (by simp; omega) _ _).alloc _
  have kr : Blk W8 (N2 + 4) #[.int .i64 4, .int .i64 iz, .int .i64 pos, .slice none 0 0] 55 := by rw [hW8]; exact Blk.new' _ _ (by simp; omega) _ _
  obtain ⟨qc, qr, qe, qt, tt, b05⟩ := HQ5.out
  have b08 := b05.trans (b58.mono b05.size)
  have HS := hid (And.intro kl (And.intro kc kr))
  have HT := hid (And.intro (tt.keep b58) (And.intro (qt.keep b58) (And.intro (qr.keep b58) (And.intro (qe.keep b58) (And.intro (qc.keep b58) b08)))))
  rw [s5]
  clear hW8 hW5 c0 c1 HQ5 qc qr qe qt tt b05 b58 b08 kl kc kr hmm
  gi_wp2
  refine wpIn_rangeL (gf := 70) (lb := #[.pointer (some ⟨N2 + 3, 0, none⟩), .pointer (some ⟨N2 + 2, 0, none⟩), .pointer (some ⟨N2 + 4, 0, none⟩)]) ?g ?eg (N := rs.length) (Y := RepY rs (N2 + 7)) (kp := keptR N2 (.slice na nodes.length nc)) (Fin := RepFin L (repliesL s 4 iz pos [] nodes).2) (FinX := fun j => RepFin L (afterL 4 iz pos [] s nodes j)) (al0 := p.all L) (M := N2 + 7) ?hM ?hit
    (fun j al WX => (∀ i y, i < j → rs[i]? = some y → y.e ≠ 0) ∧ TabAt WX N2 (.int .i64 0) (cntF (rs.take j)) ∧ Blk WX (N2 + 1) #[.map (some N2)] 102 ∧ Blk WX (W.heap.size + 1) #[.slice none 0 0] 35 ∧ Blk WX (W.heap.size + 2) #[.int .i64 0] 28 ∧ Blk WX W.heap.size #[.int .i64 iz, .slice na nodes.length nc] 24 ∧ (∀ b, al b → p.all L b ∨ N2 + 5 ≤ b) ∧ Ext (p.all L) W WX ∧ N2 + 5 ≤ WX.heap.size)
    (fun c j al WX => c = .ret ∧ (∃ r v, rs[j]? = some r ∧ r.e = 0 ∧ (∀ i y, i < j → rs[i]? = some y → y.e ≠ 0) ∧ Blk WX (W.heap.size + 1) #[v] 35 ∧ Bs WX v r.b ∧ ∀ g, v.ownBlock = some g → ¬ al g ∧ N2 + 7 ≤ g ∧ g < WX.heap.size) ∧ Blk WX (W.heap.size + 2) #[.int .i64 0] 28 ∧ (∀ b, al b → p.all L b ∨ N2 + 5 ≤ b) ∧ Ext (p.all L) W WX ∧ N2 + 5 ≤ WX.heap.size) ?hI ?hIx ?hYs ?hFin ?hFinX ?hal ?hkp ?h0 (fun _ W0 t => t.setIfInBounds 9 (.pointer (some ⟨W0.heap.size, 0, none⟩))) (fun (args : Array Value) (W0 : World) => match args[0]? with | some (Value.agg cs) => W0.alloc (.cells cs 51) | _ => W0) ?hAW ?hassign ?hbody ?hdone ?hstop
  case g => rfl
  case eg => intro args w; rfl
  case hM => omega
  case hit =>
    intro W' hb hs
    obtain ⟨kl, kc, kr⟩ := HS.out
    have hb := b5_keep s8 hb
    have b0 := HT.out.2.2.2.2.2.trans (hb.mono (by omega))
    have hno : ∀ b, W.heap.size ≤ b → ¬ p.all L b := fun b hb hc => by have := HPL.out b hc; omega
    have := replies_iter (N2 + 3) (N2 + 2) (N2 + 4) iz 4 pos (.slice na nodes.length nc) (.slice none 0 0) nodes [] (keptR N2 (.slice na nodes.length nc)) (HH.out.1.keep b0) (hpr.le hnl) (kc.keep hb) (kl.keep hb) (kr.keep hb) (HH.out.2.1.keep b0) (Bs.nil _) (by omega)
      ⟨.inl ⟨by omega, by omega⟩, hno _ (by omega)⟩ ⟨.inl ⟨by omega, by omega⟩, hno _ (by omega)⟩ ⟨.inl ⟨by omega, by omega⟩, hno _ (by omega)⟩ (fun g hg => ⟨.inr hg, (HH.out.2.2 g hg).1⟩) (fun g hg => by cases hg)
    rw [HRS.out, show W'.heap.size = N2 + 7 from by omega] at this
    exact this
  case hI =>
    rintro j al al' A B ⟨h1, h2, h3, h4, h5, h6, h7, h8, h9⟩ he hg
    have hno : ∀ b, W.heap.size ≤ b → b < N2 + 5 → ¬ (al b ∨ W8.heap.size ≤ b ∧ b < N2 + 7) := fun b hb1 hb2 hc => by
      rcases hc with hc | hc
      · rcases h7 b hc with h9 | h9
        · have := HPL.out b h9; omega
        · omega
      · omega
    refine ⟨h1, h2.ext he (hno _ (by omega) (by omega)), h3.ext he (hno _ (by omega) (by omega)), h4.ext he (hno _ (by omega) (by omega)), h5.ext he (hno _ (by omega) (by omega)), h6.ext he (hno _ (by omega) (by omega)), fun b hb => (hg b hb).elim (h7 b) (fun h => .inr (by omega)), h8.trans he (fun b hb => ?_), Nat.le_trans h9 he.size⟩
    rcases hb with hb | hb
    · exact (h7 b hb).imp (fun h => h) (fun h => by omega)
    · exact .inr (by omega)
  case hIx =>
    rintro c j al al' A B ⟨rfl, ⟨r, v, h1, h2, h3, h4, h5, h6⟩, h7, h8, h9, h10⟩ he hg
    have hno : ∀ b, W.heap.size ≤ b → b < N2 + 5 → ¬ (al b ∨ W8.heap.size ≤ b ∧ b < N2 + 7) := fun b hb1 hb2 hc => by
      rcases hc with hc | hc
      · rcases h8 b hc with h9 | h9
        · have := HPL.out b h9; omega
        · omega
      · omega
    refine ⟨rfl, ⟨r, v, h1, h2, h3, h4.ext he (hno _ (by omega) (by omega)), h5.ext he (fun g hgv _ hc => hc.elim (h6 g hgv).1 (fun h => by have := (h6 g hgv).2.1; omega)), fun g hgv => ⟨fun hc => (hg g hc).elim (h6 g hgv).1 (fun h => by have := (h6 g hgv).2.2; omega), (h6 g hgv).2.1, Nat.lt_of_lt_of_le (h6 g hgv).2.2 he.size⟩⟩, h7.ext he (hno _ (by omega) (by omega)), fun b hb => (hg b hb).elim (h8 b) (fun h => .inr (by have := (show N2 + 5 ≤ A.heap.size from h10); omega)), h9.trans he (fun b hb => ?_), Nat.le_trans h10 he.size⟩
    rcases hb with hb | hb
    · exact (h8 b hb).imp (fun h => h) (fun h => by omega)
    · exact .inr (by omega)
  case hYs => rintro j al A args ⟨r, v, _, rfl, _⟩; rfl
  case hFin => intro al A B h he; exact h.ext he
  case hFinX => intro j al A B h he; exact h.ext he
  case hal => intro b hb; have := HPL.out b hb; omega
  case hkp =>
    rintro b (hb | hb)
    · omega
    · have := (HH.out.2.2 b hb).2; omega
  case h0 =>
    obtain ⟨h1, h2, h3, h4, h5, h6⟩ := HT.out
    exact ⟨fun i y hi => by omega, h1, h2, h3, h4, h5, fun b hb => .inl hb, Ext.ofBelow h6, by omega⟩
  case hAW =>
    rintro j al A args ⟨r, v, _, rfl, _⟩
    exact (Below.refl _ A).alloc (Nat.le_refl _) _
  case hassign =>
    rintro m j al args A K ⟨r, v, _, rfl, hbv, _⟩ hK
    obtain ⟨va, vc, rfl⟩ := hbv.form
    rw [zip_one] at hK ⊢
    simp only [List.setIfInBounds_toArray, List.set_cons_zero, List.set_cons_succ] at hK ⊢
    gi_wp2
    exact hK
  case hstop =>
    rintro c j al A ⟨rfl, ⟨r, v, h1, h2, h3, h4, h5, h6⟩, h7, h8, h9, _⟩ ⟨p', rfl, hL⟩ hna hdf
    have hxd : ∀ o, Ext (fun b => b = W8.heap.size) A (A.putObj W8.heap.size o) := fun o => ext_putObj _ _ _
    have z1 : ∀ o, (A.putObj W8.heap.size o).cell? ⟨W.heap.size + 1, 0, none⟩ = some v := fun o => (h4.ext (hxd o) (by omega)).cell (o := 0) rfl
    have z2 : ∀ o, (A.putObj W8.heap.size o).cell? ⟨W.heap.size + 1 + 1, 0, none⟩ = some (.int .i64 0) := fun o => (h7.ext (hxd o) (by omega)).cell (o := 0) rfl
    have hfin : ∀ o, ReadPost W L p (readL s ⟨iz, nodes⟩ pos) (.returned (.tuple #[v, .int .i64 0])) (A.putObj W8.heap.size o) := fun o => by
      rw [HRF.out j r h1 h2 h3]
      exact ⟨v, p', rfl, hL.ext (hxd o) (fun b e hb => by rw [e] at hb; exact hna hb), fun b hb => (h8 b hb).imp (fun h => h) (fun h => by omega), h9.trans (hxd o) (fun b e => .inr (by omega)), h5.ext (hxd o) (fun g hg _ e => by have := (h6 g hg).2.1; have e2 : g = W8.heap.size := e; omega), fun g hg => ⟨(h6 g hg).1, by have := (h6 g hg).2.1; omega, Nat.lt_of_lt_of_le (h6 g hg).2.2 (hxd o).size⟩⟩
    obtain ⟨va, vc, rfl⟩ := h5.form
    have HFN := hid hfin
    clear hfin hxd h1 h2 h3 h4 h5 h6 h7 h8 h9 hL
    gi_wp2
    exact ⟨by simp, .inl ⟨_, _, rfl, run_takeDeferred hdf, _, by simp [results, Tryz.results19, go_sem, z1, z2, asAddr], HFN.out _⟩⟩
  case hdone =>
    rintro al A ⟨h1, h2, h3, h4, h5, h6, h7, h8, h9⟩ ⟨p', rfl, hL⟩ hna hdf
    rw [s8] at hna hdf
    rw [List.take_length] at h2
    have HRE := HRN.out (fun r hr => by
      obtain ⟨i, hi, e⟩ := List.getElem_of_mem hr
      exact h1 i r hi (by rw [List.getElem?_eq_getElem hi, e]))
    obtain ⟨z32, hz32⟩ : ∃ z : Int, (cntE 32 rs : Int) = z := ⟨_, rfl⟩
    obtain ⟨z3, hz3⟩ : ∃ z : Int, (cntE 3 rs : Int) = z := ⟨_, rfl⟩
    have hl32 := h2.look (P := Tryz.prog) Tryz.underlying102 Tryz.underlying28 (fun w => by kernel_rfl) 32
    have hl3 := h2.look (P := Tryz.prog) Tryz.underlying102 Tryz.underlying28 (fun w => by kernel_rfl) 3
    unfold cntF at hl32 hl3
    rw [hz32] at hl32
    rw [hz3] at hl3
    obtain ⟨d1, hd1⟩ : ∃ d, decide (z32 > 0) = d := ⟨_, rfl⟩
    obtain ⟨d2, hd2⟩ : ∃ d, decide (z3 ≥ (nodes.length : Int)) = d := ⟨_, rfl⟩
    obtain ⟨en, hen⟩ : ∃ en : Int, (if d1 = true then (32 : Int) else if d2 = true then 3 else 33) = en := ⟨_, rfl⟩
    have HRE2 : readL s ⟨iz, nodes⟩ pos = ([], en, (repliesL s 4 iz pos [] nodes).2) := by
      rw [HRE, ← hen, ← hd1, ← hd2, ← hz32, ← hz3]
      simp only [gt_iff_lt, ge_iff_le, Int.ofNat_le, decide_eq_true_eq]
      congr 2
      by_cases hq : 0 < cntE 32 rs
      · rw [if_pos hq, if_pos (show (0 : Int) < (cntE 32 rs : Int) by omega)]
      · rw [if_neg hq, if_neg (show ¬ (0 : Int) < (cntE 32 rs : Int) by omega)]
    obtain ⟨Bw, hBw⟩ : ∃ Bw, (A.setCell ⟨W.heap.size + 1, 0, none⟩ (.slice none 0 0)).setCell ⟨W.heap.size + 2, 0, none⟩ (.int .i64 en) = Bw := ⟨_, rfl⟩
    have t0 := h3.cell (o := 0) rfl
    have c0 := h6.cell (o := 0) rfl
    have c1 := h6.cell (o := 1) rfl
    have r0 := h4.cell (o := 0) rfl
    have rf := h4.free 0
    have e1 := (h5.setOther (a := ⟨W.heap.size + 1, 0, none⟩) (by simp) (.slice none 0 0))
    have e0 := h5.cell (o := 0) rfl
    have ef := h5.free 0
    have e10 := e1.cell (o := 0) rfl
    have e1f := e1.free 0
    have kr := (h4.set (o := 0) (.slice none 0 0)).setOther (a := ⟨W.heap.size + 2, 0, none⟩) (by simp) (.int .i64 en)
    have ke := e1.set (o := 0) (.int .i64 en)
    rw [hBw] at kr ke
    have hxB : Ext (fun b => b = W.heap.size + 1 ∨ b = W.heap.size + 2) A Bw := by rw [← hBw]; exact ((Ext.refl _ A).setCell (.inl (.inl rfl)) _).setCell (.inl (.inr rfl)) _
    have hdB : Bw.heap[N2 + 5]? = some (.deferred (some [])) := (hxB.block _ (Array.getElem?_eq_some_iff.1 hdf).1 (by omega)).trans hdf
    have hxd : ∀ o, Ext (fun b => b = N2 + 5) Bw (Bw.putObj (N2 + 5) o) := fun o => ext_putObj _ _ _
    have z1 : ∀ o, (Bw.putObj (N2 + 5) o).cell? ⟨W.heap.size + 1, 0, none⟩ = some (.slice none 0 0) := fun o => (kr.ext (hxd o) (by omega)).cell (o := 0) rfl
    have z2 : ∀ o, (Bw.putObj (N2 + 5) o).cell? ⟨W.heap.size + 1 + 1, 0, none⟩ = some (.int .i64 en) := fun o => (ke.ext (hxd o) (by omega)).cell (o := 0) rfl
    have hno : ∀ b, (b = W.heap.size + 1 ∨ b = W.heap.size + 2) → ¬ p'.all L b := fun b hb hc => by
      rcases h7 b hc with h | h
      · have := HPL.out b h; omega
      · omega
    have hfin : ∀ o, ReadPost W L p (readL s ⟨iz, nodes⟩ pos) (.returned (.tuple #[.slice none 0 0, .int .i64 en])) (Bw.putObj (N2 + 5) o) := fun o => by
      rw [HRE2]
      exact ⟨_, p', rfl, (hL.ext hxB (fun b e hb => hno b e hb)).ext (hxd o) (fun b e hb => by rw [e] at hb; exact hna hb), fun b hb => (h7 b hb).imp (fun h => h) (fun h => by omega), (h8.trans hxB (fun b e => .inr (by omega))).trans (hxd o) (fun b e => .inr (by omega)), Bs.nil _, fun g hg => by cases hg⟩
    have HFN := hid hfin
    have HBW := hid hBw
    have HEN := hid hen
    have hdb := hid hdB
    clear hfin hxd h1 h2 h3 h4 h5 h6 h7 h8 h9 hL hno kr ke e1 HRE HRE2 hz32 hz3 hxB hBw hen hdB
    cases d1
    · cases d2
      · obtain rfl : en = 33 := HEN.out.symm
        gi_wp2
        rw [HBW.out]
        try rw [s8]
        exact ⟨by simp, .inl ⟨_, _, rfl, run_takeDeferred hdb.out, _, by simp [results, Tryz.results19, go_sem, z1, z2, asAddr], HFN.out _⟩⟩
      · obtain rfl : en = 3 := HEN.out.symm
        gi_wp2
        rw [HBW.out]
        try rw [s8]
        exact ⟨by simp, .inl ⟨_, _, rfl, run_takeDeferred hdb.out, _, by simp [results, Tryz.results19, go_sem, z1, z2, asAddr], HFN.out _⟩⟩
    · obtain rfl : en = 32 := HEN.out.symm
      gi_wp2
      rw [HBW.out]
      try rw [s8]
      exact ⟨by simp, .inl ⟨_, _, rfl, run_takeDeferred hdb.out, _, by simp [results, Tryz.results19, go_sem, z1, z2, asAddr], HFN.out _⟩⟩
  case hbody =>
    rintro m j al A0 A args hj hna ⟨h1, h2, h3, h4, h5, h6, h7, h8, h9⟩ ⟨r, v, hr, rfl, hbv, hvo, hal9⟩ hM hxA
    obtain ⟨va, vc, rfl⟩ := hbv.form
    rw [zip_one]
    simp only [List.setIfInBounds_toArray, List.set_cons_zero, List.set_cons_succ]
    have k0 : Blk (A0.alloc (.cells #[.int .i64 r.e, .int .i64 r.tl, .bool r.sl, .slice va r.b.length vc] 51)) A0.heap.size #[.int .i64 r.e, .int .i64 r.tl, .bool r.sl, .slice va r.b.length vc] 51 := Blk.new _ _ _
    have k1 : Blk A A0.heap.size #[.int .i64 r.e, .int .i64 r.tl, .bool r.sl, .slice va r.b.length vc] 51 := k0.ext hxA (by omega)
    have hsA : A0.heap.size + 1 ≤ A.heap.size := by
      have h9 := hxA.size
      have h8 : (A0.alloc (.cells #[.int .i64 r.e, .int .i64 r.tl, .bool r.sl, .slice va r.b.length vc] 51)).heap.size = A0.heap.size + 1 := by simp
      have h7 : (A0.alloc (.cells #[.int .i64 r.e, .int .i64 r.tl, .bool r.sl, .slice va r.b.length vc] 51)).heap.size ≤ A.heap.size := h9
      omega
    have m0 := k1.cell (o := 0) rfl
    have m1 := k1.cell (o := 1) rfl
    have m2 := k1.cell (o := 2) rfl
    have m3 := k1.cell (o := 3) rfl
    have z0 := h3.cell (o := 0) rfl
    have hnk : ∀ b, W.heap.size ≤ b → b < N2 + 2 → ¬ al b ∧ ¬ keptR N2 (.slice na nodes.length nc) b ∧ ¬ (W8.heap.size ≤ b ∧ b < N2 + 7) := fun b hb1 hb2 => ⟨fun hc => by
        rcases h7 b hc with h9 | h9
        · have := HPL.out _ h9; omega
        · omega, fun hc => by
        rcases hc with hc | hc
        · omega
        · have := (HH.out.2.2 _ hc).2; omega, by omega⟩
    by_cases hre : r.e = 0
    · have he : (r.e == 0) = true := beq_iff_eq.2 hre
      have hbA := (hbv.keep ((Below.refl _ A0).alloc (Nat.le_refl _) (.cells #[.int .i64 r.e, .int .i64 r.tl, .bool r.sl, .slice va r.b.length vc] 51))).ext hxA (fun g hg _ e => by have e2 : g = W8.heap.size + 1 := e; have := (hvo g hg).2.2; omega)
      have HCL := hid (slices_Clone (.slice va r.b.length vc) r.b A hbA (by have := HLEN.out r (List.mem_of_getElem? hr); omega))
      have HA := hid (And.intro h1 (And.intro h4 (And.intro h5 (And.intro h7 (And.intro h8 h9)))))
      have HR := hid (And.intro hr (And.intro hre (And.intro hal9 (And.intro hnk hM))))
      clear hre hbA hbv hvo hr hal9 hnk h1 h2 h3 h4 h5 h6 h7 h8 h9 hxA k0 k1
      gi_wp2
      refine ⟨trivial, fun h => by simp [Fence.wide, Fence.inRound] at h, CallsIn.inRound _ ((callsIn_wide.2 HCL.out).mono ?_)⟩
      rintro e A3 ⟨v2, rfl, s2, o2, b2⟩
      obtain ⟨a2, c2, rfl⟩ := s2.form
      obtain ⟨h1, h4, h5, h7, h8, h9⟩ := HA.out
      obtain ⟨hr, hre, hal9, hnk, hM⟩ := HR.out
      have r1 := h4.keep b2
      have r0 := r1.cell (o := 0) rfl
      have rf := r1.free 0
      have e1 := (h5.keep b2).setOther (a := ⟨W.heap.size + 1, 0, none⟩) (by simp) (.slice a2 r.b.length c2)
      have e10 := e1.cell (o := 0) rfl
      have e1f := e1.free 0
      have kr := (r1.set (o := 0) (.slice a2 r.b.length c2)).setOther (a := ⟨W.heap.size + 2, 0, none⟩) (by simp) (.int .i64 0)
      have ke := e1.set (o := 0) (.int .i64 0)
      have hx3 : Ext (fun b => b = W.heap.size + 1 ∨ b = W.heap.size + 2) A ((A3.setCell ⟨W.heap.size + 1, 0, none⟩ (.slice a2 r.b.length c2)).setCell ⟨W.heap.size + 2, 0, none⟩ (.int .i64 0)) := ((Ext.ofBelow b2).setCell (.inl (.inl rfl)) _).setCell (.inl (.inr rfl)) _
      have s3 := s2.ext (((Ext.refl (fun b => b = W.heap.size + 1 ∨ b = W.heap.size + 2) A3).setCell (a := ⟨W.heap.size + 1, 0, none⟩) (.inl (.inl rfl)) (.slice a2 r.b.length c2)).setCell (a := ⟨W.heap.size + 2, 0, none⟩) (.inl (.inr rfl)) (.int .i64 0)) (fun g hg _ hc => by have := (o2.blk g hg).1; omega)
      have hsz3 : ((A3.setCell ⟨W.heap.size + 1, 0, none⟩ (.slice a2 r.b.length c2)).setCell ⟨W.heap.size + 2, 0, none⟩ (.int .i64 0)).heap.size = A3.heap.size := by simp
      have HE := hid (And.intro (hx3.mono (fun b _ hb => hnk b (by omega) (by omega)) : Ext (fun b => ¬ al b ∧ ¬ keptR N2 (.slice na nodes.length nc) b ∧ ¬ (W8.heap.size ≤ b ∧ b < N2 + 7)) _ _)
        (show (Code.ret : Code) = .ret ∧ (∃ r' v, rs[j]? = some r' ∧ r'.e = 0 ∧ (∀ i y, i < j → rs[i]? = some y → y.e ≠ 0) ∧ Blk ((A3.setCell ⟨W.heap.size + 1, 0, none⟩ (.slice a2 r.b.length c2)).setCell ⟨W.heap.size + 2, 0, none⟩ (.int .i64 0)) (W.heap.size + 1) #[v] 35 ∧ Bs ((A3.setCell ⟨W.heap.size + 1, 0, none⟩ (.slice a2 r.b.length c2)).setCell ⟨W.heap.size + 2, 0, none⟩ (.int .i64 0)) v r'.b ∧ ∀ g, v.ownBlock = some g → ¬ al g ∧ N2 + 7 ≤ g ∧ g < ((A3.setCell ⟨W.heap.size + 1, 0, none⟩ (.slice a2 r.b.length c2)).setCell ⟨W.heap.size + 2, 0, none⟩ (.int .i64 0)).heap.size) ∧ Blk ((A3.setCell ⟨W.heap.size + 1, 0, none⟩ (.slice a2 r.b.length c2)).setCell ⟨W.heap.size + 2, 0, none⟩ (.int .i64 0)) (W.heap.size + 2) #[.int .i64 0] 28 ∧ (∀ b, al b → p.all L b ∨ N2 + 5 ≤ b) ∧ Ext (p.all L) W ((A3.setCell ⟨W.heap.size + 1, 0, none⟩ (.slice a2 r.b.length c2)).setCell ⟨W.heap.size + 2, 0, none⟩ (.int .i64 0)) ∧ N2 + 5 ≤ ((A3.setCell ⟨W.heap.size + 1, 0, none⟩ (.slice a2 r.b.length c2)).setCell ⟨W.heap.size + 2, 0, none⟩ (.int .i64 0)).heap.size from
          ⟨rfl, ⟨r, _, hr, hre, h1, kr, s3, fun g hg => ⟨fun hc => (by have := hal9 g hc; have := (o2.blk g hg).1; omega), (by have := (o2.blk g hg).1; omega), (by rw [hsz3]; exact (o2.blk g hg).2)⟩⟩, ke, h7, h8.trans hx3 (fun b hb => .inr (by omega)), Nat.le_trans h9 hx3.size⟩))
      clear h1 h4 h5 h7 h8 h9 hr hre hal9 hnk hM r1 e1 kr ke hx3 s3 hsz3 s2 o2 b2
      gi_wp2
      exact ⟨HE.out.1, rfl, HE.out.2.2⟩
    · have he : (r.e == 0) = false := beq_eq_false_iff_ne.2 hre
      have hcl := cntE_le r.e (rs.take j)
      have hrj : (rs.take j).length ≤ rs.length := by simp; omega
      obtain ⟨cn, hcn⟩ : ∃ cn, cntE r.e (rs.take j) = cn := ⟨_, rfl⟩
      have hlk := h2.look (P := Tryz.prog) Tryz.underlying102 Tryz.underlying28 (fun w => by kernel_rfl) r.e
      have hcf : cntF (rs.take j) r.e = .int .i64 (cn : Int) := by unfold cntF; rw [hcn]
      rw [hcf] at hlk
      have hw : wrap64 ((cn : Int) + 1) = (cn : Int) + 1 := by unfold wrap64; omega
      obtain ⟨A2, hup, ht2, hx2⟩ := h2.put (P := Tryz.prog) Tryz.underlying102 Tryz.underlying28 r.e (.int .i64 ((cn : Int) + 1))
      have ht2 := ht2.of (g := cntF (rs.take (j + 1))) (fun y => by rw [← hcn]; exact cntF_snoc hr y)
      have hbf : ∀ i y, i < j + 1 → rs[i]? = some y → y.e ≠ 0 := fun i y hi hy => by
        rcases (show i < j ∨ i = j by omega) with h | h
        · exact h1 i y h hy
        · subst h
          rw [hr] at hy
          injection hy with hy
          subst hy
          exact hre
      have HE := hid (And.intro (hx2.mono (fun b _ e => by have e2 : b = N2 := e; exact hnk b (by omega) (by omega)) : Ext (fun b => ¬ al b ∧ ¬ keptR N2 (.slice na nodes.length nc) b ∧ ¬ (W8.heap.size ≤ b ∧ b < N2 + 7)) A A2)
        (And.intro hbf (And.intro ht2 (And.intro (h3.ext hx2 (by omega)) (And.intro (h4.ext hx2 (by omega)) (And.intro (h5.ext hx2 (by omega)) (And.intro (h6.ext hx2 (by omega)) (And.intro h7 (And.intro (h8.trans hx2 (fun b e => .inr (by have e2 : b = N2 := e; omega))) (Nat.le_trans h9 hx2.size))))))))))
      clear hre hbf h1 h2 h3 h4 h5 h6 h7 h8 h9 ht2 hx2 hbv hvo hr hal9 hnk hxA k0 k1 hcl hrj hcn hcf
      gi_wp2
      exact HE.out
end
end Go.Proofs.YtbahjinlcbjikaaGreat
