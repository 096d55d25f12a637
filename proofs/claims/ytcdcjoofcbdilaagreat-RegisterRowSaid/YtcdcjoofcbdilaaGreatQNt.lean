import Derived.Test.YtcdcjoofcbdilaaGreatMQNet3
/-! Package net: a net in memory, with messages that are late; Send, Late, Message, Take, Double. -/
namespace Go.Proofs.YtcdcjoofcbdilaaGreat
open Go.RowKit

structure NetP where
  N : Nat
  lv : Value
  tv : Value
  mo : Nat → Prop
def NetP.all (q : NetP) (b : Nat) : Prop := b = q.N ∨ q.lv.ownBlock = some b ∨ q.mo b
/-- Messages in memory: their row, their bytes. -/
structure MsAt (W : World) (tv : Value) (mo : Nat → Prop) (rs : List (Int × Value)) (ms : List (Int × List UInt8)) : Prop where
  row : OwnM W 0 tv rs
  len : rs.length = ms.length
  at_ : ∀ (i : Nat) m r, ms[i]? = some m → rs[i]? = some r → r.1 = m.1 ∧ Bs W r.2 m.2 ∧ m.2.length ≤ 1000000 ∧ ∀ g, r.2.ownBlock = some g → mo g ∧ tv.ownBlock ≠ some g
  own : ∀ g, tv.ownBlock = some g → mo g
  lt : ∀ g, mo g → g < W.heap.size
structure NetAt (W : World) (q : NetP) (s : NetS) : Prop where
  net : Blk W q.N #[q.lv, q.tv, .bool true] 56
  luck : OwnI W 0 3 q.lv s.luck
  ms : ∃ rs, MsAt W q.tv q.mo rs s.late
  lvd : ∀ g, q.lv.ownBlock = some g → g ≠ q.N ∧ ¬ q.mo g
  nmo : ¬ q.mo q.N
def NetPost (W : World) (q : NetP) (s' : NetS) (w' : World) : Prop := ∃ q', NetAt w' q' s' ∧ q'.N = q.N ∧ (∀ b, q'.all b → q.all b ∨ W.heap.size ≤ b) ∧ Ext q.all W w'
section
variable {W w2 : World} {tv : Value} {mo mo' : Nat → Prop} {rs : List (Int × Value)} {ms : List (Int × List UInt8)}
theorem MsAt.slicy (h : MsAt W tv mo rs ms) : Slicy rs := fun r hr => by
  obtain ⟨i, hi, he⟩ := List.getElem_of_mem hr
  have h1 : i < ms.length := by have := h.len; omega
  obtain ⟨_, hb, _⟩ := h.at_ i ms[i] r (by simp) (by rw [List.getElem?_eq_getElem hi, he])
  obtain ⟨a, c, e⟩ := hb.form
  exact ⟨_, _, _, e⟩
theorem MsAt.ext {fp : Nat → Prop} (h : MsAt W tv mo rs ms) (he : Ext fp W w2) (hn : ∀ b, mo b → ¬ fp b) : MsAt w2 tv mo rs ms :=
  ⟨h.row.ext he (fun k hk => hn k (h.own k hk)), h.len, fun i m r h1 h2 => by
    obtain ⟨a1, a2, a4, a3⟩ := h.at_ i m r h1 h2
    exact ⟨a1, a2.ext he (fun k hk _ => hn k (a3 k hk).1), a4, a3⟩, h.own, fun g hg => Nat.lt_of_lt_of_le (h.lt g hg) he.size⟩
/-- What was late is gone, or there is one more: the row was turned, the bytes were not. -/
theorem MsAt.gone (h : MsAt W tv mo rs ms) {k : Nat} {tv' : Value} (hr : OwnM w2 0 tv' (rs.eraseIdx k)) (ht : tv'.ownBlock = tv.ownBlock) {fp : Nat → Prop} (he : Ext fp W w2) (hf : ∀ b, mo b → fp b → tv.ownBlock = some b) : MsAt w2 tv' mo (rs.eraseIdx k) (ms.eraseIdx k) := by
  refine ⟨hr, ?_, fun i m r h1 h2 => ?_, fun g hg => h.own g (by rw [← ht]; exact hg), fun g hg => Nat.lt_of_lt_of_le (h.lt g hg) he.size⟩
  · rw [List.length_eraseIdx, List.length_eraseIdx, h.len]
  · rw [List.getElem?_eraseIdx] at h1 h2
    have key : ∀ j, ms[j]? = some m → rs[j]? = some r → r.1 = m.1 ∧ Bs w2 r.2 m.2 ∧ m.2.length ≤ 1000000 ∧ ∀ g, r.2.ownBlock = some g → mo g ∧ tv'.ownBlock ≠ some g := fun j g1 g2 => by
      obtain ⟨a1, a2, a4, a3⟩ := h.at_ j m r g1 g2
      exact ⟨a1, a2.ext he (fun q hq _ hc => (a3 q hq).2 (hf q (a3 q hq).1 hc)), a4, fun g hg => ⟨(a3 g hg).1, by rw [ht]; exact (a3 g hg).2⟩⟩
    by_cases hik : i < k
    · rw [if_pos hik] at h1 h2; exact key i h1 h2
    · rw [if_neg hik] at h1 h2; exact key (i + 1) h1 h2
theorem MsAt.more (h : MsAt W tv mo rs ms) {to : Int} {v tv' : Value} {b : List UInt8} (hr : OwnM w2 0 tv' (rs ++ [(to, v)])) (hb : Bs w2 v b) (hbl : b.length ≤ 1000000) (hmm : ∀ g, mo g → mo' g) (ht : ∀ g, tv'.ownBlock = some g → mo' g ∧ (tv.ownBlock = some g ∨ ¬ mo g)) (hv : ∀ g, v.ownBlock = some g → mo' g ∧ tv'.ownBlock ≠ some g)
    (hlt : ∀ g, mo' g → g < w2.heap.size) {fp : Nat → Prop} (he : Ext fp W w2) (hf : ∀ b, mo b → fp b → tv.ownBlock = some b) : MsAt w2 tv' mo' (rs ++ [(to, v)]) (ms ++ [(to, b)]) := by
  refine ⟨hr, by simp [h.len], fun i m r h1 h2 => ?_, fun g hg => (ht g hg).1, hlt⟩
  by_cases hi : i < ms.length
  · rw [List.getElem?_append_left hi] at h1
    rw [List.getElem?_append_left (by rw [h.len]; exact hi)] at h2
    obtain ⟨a1, a2, a4, a3⟩ := h.at_ i m r h1 h2
    refine ⟨a1, a2.ext he (fun q hq _ hc => (a3 q hq).2 (hf q (a3 q hq).1 hc)), a4, fun g hg => ⟨hmm g (a3 g hg).1, fun hc => ?_⟩⟩
    rcases (ht g hc).2 with e | e
    · exact (a3 g hg).2 e
    · exact e (a3 g hg).1
  · rw [List.getElem?_append_right (by omega)] at h1
    rw [List.getElem?_append_right (by rw [h.len]; omega), h.len] at h2
    have e0 : i - ms.length = 0 := by
      have := (List.getElem?_eq_some_iff.1 h1).1
      simp at this
      omega
    rw [e0] at h1 h2
    simp at h1 h2
    subst h1 h2
    exact ⟨rfl, hb, hbl, hv⟩
end
section
variable {W w2 : World} {q : NetP} {s : NetS}
theorem NetAt.size (h : NetAt W q s) {b : Nat} (hb : q.all b) : b < W.heap.size := by
  rcases hb with rfl | hb | hb
  · exact h.net.lt
  · exact h.luck.lt b hb
  · obtain ⟨rs, hm⟩ := h.ms; exact hm.lt b hb
theorem NetAt.ext {fp : Nat → Prop} (h : NetAt W q s) (he : Ext fp W w2) (hn : ∀ b, q.all b → ¬ fp b) : NetAt w2 q s :=
  ⟨h.net.ext he (hn _ (.inl rfl)), h.luck.ext he (fun k hk => hn k (.inr (.inl hk))), by obtain ⟨rs, hm⟩ := h.ms; exact ⟨rs, hm.ext he (fun b hb => hn b (.inr (.inr hb)))⟩, h.lvd, h.nmo⟩
theorem NetAt.keep (h : NetAt W q s) (hb : Below W.heap.size W w2) : NetAt w2 q s := h.ext (fp := nofp) (Ext.ofBelow hb) (fun _ _ h => h)
/-- The luck was turned. -/
theorem NetAt.lucky (h : NetAt W q s) {lv' : Value} {l' : List Int} (h1 : Blk w2 q.N #[lv', q.tv, .bool true] 56) (h2 : OwnI w2 0 3 lv' l') (hl : ∀ g, lv'.ownBlock = some g → q.lv.ownBlock = some g ∨ W.heap.size ≤ g)
    (hx : Ext (fun b => b = q.N ∨ q.lv.ownBlock = some b) W w2) : NetAt w2 ⟨q.N, lv', q.tv, q.mo⟩ ⟨l', s.late⟩ ∧ (∀ b, (⟨q.N, lv', q.tv, q.mo⟩ : NetP).all b → q.all b ∨ W.heap.size ≤ b) ∧ Ext q.all W w2 := by
  obtain ⟨rs, hm⟩ := h.ms
  refine ⟨⟨h1, h2, ⟨rs, hm.ext hx (fun b hb hc => hc.elim (fun e => h.nmo (e ▸ hb)) (fun e => (h.lvd b e).2 hb))⟩, fun g hg => ?_, h.nmo⟩, ?_, hx.mono (fun b _ hb => hb.elim .inl (fun e => .inr (.inl e)))⟩
  · rcases hl g hg with h3 | h3
    · exact h.lvd g h3
    · have := h.net.lt
      exact ⟨by show g ≠ q.N; omega, fun hc => by have := hm.lt g hc; omega⟩
  · rintro b (hb | hb | hb)
    · exact .inl (.inl hb)
    · exact (hl b hb).imp (fun e => .inr (.inl e)) id
    · exact .inl (.inr (.inr hb))
theorem net_Luck_at (h : NetAt W q s) (m : List Int) (v : Value) (hv : Is W v m) (hl : (s.luck.length + m.length) * 8 ≤ 140737488355328) :
    Calls Tryz.prog 36 #[.pointer (some ⟨q.N, 0, none⟩), v] W fun e w' => (∃ x, e = .returned x) ∧ NetPost W q (s.lucky m) w' := by
  refine (net_Luck s.luck m v h.net h.luck (fun e => (h.lvd _ e).1 rfl) hv hl).mono ?_
  rintro e w' ⟨hx, lv', k1, k2, k3, k4⟩
  obtain ⟨a1, a2, a3⟩ := h.lucky k1 k2 k3 k4
  exact ⟨hx, ⟨q.N, lv', q.tv, q.mo⟩, a1, rfl, a2, a3⟩
set_option maxHeartbeats 800000 in
theorem net_Late (h : NetAt W q s) : Calls Tryz.prog 22 #[.pointer (some ⟨q.N, 0, none⟩)] W fun e w' => e = .returned (.int .i64 (s.late.length : Int)) ∧ w' = W := by
  obtain ⟨rs, hm⟩ := h.ms
  have HN := hid (net_none h.net)
  obtain ⟨a1, q1, e1⟩ : ∃ a c, q.tv = .slice a s.late.length c := by
    rcases hm.row.form with ⟨e, e2⟩ | ⟨g, c, e⟩
    · refine ⟨none, 0, ?_⟩
      rw [e, ← hm.len, e2]
      rfl
    · rw [hm.len] at e
      exact ⟨_, _, e⟩
  have c1 : W.cell? ⟨q.N, 1, none⟩ = some (.slice a1 s.late.length q1) := by rw [← e1]; exact h.net.cell (o := 1) rfl
  clear h hm e1
  go_enter Tryz.func22, Tryz.ntmps22
  go_wp2_with fail
  refine HN.out.mono ?_
  rintro e Wx ⟨rfl, hw⟩
  rw [hw]
  clear hw Wx
  go_wp2_with fail
  go_ret
  exact ⟨rfl, rfl⟩
theorem net_Send_not (h : NetAt W q s) (to : Int) (v : Value) (b : List UInt8) (hv : Bs W v b) (hf : s.fate ≠ 3) :
    Calls Tryz.prog 33 #[.pointer (some ⟨q.N, 0, none⟩), .int .i64 to, v] W fun e w' => e = .returned (.tuple #[.int .i64 (timesF s.fate : Int), .bool (replyF s.fate)]) ∧ NetPost W q (s.send to b) w' := by
  obtain ⟨av, cv, rfl⟩ := hv.form
  refine (net_Send_prompt s.luck to av b.length cv h.net h.luck (fun e => (h.lvd _ e).1 rfl) hf).mono ?_
  rintro e w' ⟨rfl, lv', k1, k2, k3, k4⟩
  obtain ⟨a1, a2, a3⟩ := h.lucky k1 k2 (fun g hg => .inl (by rw [← k3]; exact hg)) k4
  refine ⟨rfl, ⟨q.N, lv', q.tv, q.mo⟩, ?_, rfl, a2, a3⟩
  have e1 : s.send to b = ⟨s.luck.tail, s.late⟩ := by unfold NetS.send; rw [if_neg hf]
  rw [e1]
  exact a1
set_option maxRecDepth 100000 in
set_option maxHeartbeats 6400000 in
theorem net_Send_late (h : NetAt W q s) (to : Int) (v : Value) (b : List UInt8) (hv : Bs W v b) (hbl : b.length ≤ 1000000) (hvo : ∀ g, v.ownBlock = some g → ¬ q.all g) (hroom : (s.late.length + 1) * 32 ≤ 140737488355328) (hf : s.fate = 3) :
    Calls Tryz.prog 33 #[.pointer (some ⟨q.N, 0, none⟩), .int .i64 to, v] W fun e w' => e = .returned (.tuple #[.int .i64 0, .bool false]) ∧ NetPost W q (s.send to b) w' := by
  obtain ⟨av, cv, rfl⟩ := hv.form
  have HP := hid (row_take q.lv s.luck h.net h.luck (fun e => (h.lvd _ e).1 rfl))
  have HN := hid (net_none h.net)
  have hf' : mod5 (firstI s.luck) = 3 := hf
  obtain ⟨c, hc, _, hw, hm⟩ := mod5_nums (firstI s.luck)
  rw [hf'] at hc
  subst hc
  have HS := hid (show s.send to b = ⟨s.luck.tail, s.late ++ [(to, b)]⟩ by unfold NetS.send; rw [if_pos hf])
  generalize firstI s.luck = z at *
  have q0 := fate_eq
  have HH := hid (And.intro h (And.intro hv hvo))
  clear h hv hvo hf hf'
  go_enter Tryz.func33, Tryz.ntmps33
  go_wp2_with fail
  refine HN.out.mono ?_
  rintro e Wx ⟨rfl, hw9⟩
  rw [hw9]
  clear hw9 Wx
  go_wp2_with fail
  refine HP.out.mono ?_
  rintro e W1 ⟨⟨x, rfl⟩, lv', k1, k2, k3, k4⟩
  obtain ⟨a1, a2, a3⟩ := HH.out.1.lucky k1 k2 (fun g hg => .inl (by rw [← k3]; exact hg)) k4
  have hv1 := HH.out.2.1.ext a3 (fun k hk _ => HH.out.2.2 k hk)
  have HA := hid (And.intro a1 (And.intro a2 (And.intro a3 hv1)))
  have hNs := a1.net.lt
  clear k1 k2 k3 k4 a1 a2 a3 hv1 HP HN
  go_wp2_with fail
  refine wp_region_tail 8 rfl Grows (fun i v x => match i with
      | 0 => v = .pointer (some ⟨q.N, 0, none⟩)
      | 1 => v = .pointer (some ⟨q.N, 0, none⟩)
      | 2 => v = .pointer (some ⟨q.N, 1, none⟩)
      | 3 => v = .int .i64 to
      | 4 => v = .slice av b.length cv
      | 5 => ∃ aa cc, v = .slice aa b.length cc ∧ Bs x (.slice aa b.length cc) b ∧ ∀ k, (Value.slice aa b.length cc).ownBlock = some k → W1.heap.size ≤ k ∧ k < x.heap.size
      | 6 => ∃ aa cc, v = .agg #[.int .i64 to, .slice aa b.length cc] ∧ Bs x (.slice aa b.length cc) b ∧ ∀ k, (Value.slice aa b.length cc).ownBlock = some k → W1.heap.size ≤ k ∧ k < x.heap.size
      | 7 => ∃ g0 aa cc, v = .slice (some ⟨g0, 0, none⟩) 1 1 ∧ Bs x (.slice aa b.length cc) b ∧ (∀ k, (Value.slice aa b.length cc).ownBlock = some k → W1.heap.size ≤ k ∧ k < x.heap.size ∧ k ≠ g0) ∧ Blk x g0 #[.int .i64 to, .slice aa b.length cc] 130 ∧ W1.heap.size ≤ g0
      | _ => True) (by kernel_rfl) (Grows.refl _) Grows.trans ?rstab ?rsteps ?rfin
  case rstab =>
    intro i v x y hg h
    match i with
    | 0 | 1 | 2 | 3 | 4 => exact h
    | 5 => exact (by obtain ⟨aa, cc, h1, h2, h3⟩ := h; exact ⟨aa, cc, h1, h2.keep ⟨hg.os, hg.tape, hg.output, hg.size, hg.block⟩, fun k hk => ⟨(h3 k hk).1, Nat.lt_of_lt_of_le (h3 k hk).2 hg.size⟩⟩)
    | 6 => exact (by obtain ⟨aa, cc, h1, h2, h3⟩ := h; exact ⟨aa, cc, h1, h2.keep ⟨hg.os, hg.tape, hg.output, hg.size, hg.block⟩, fun k hk => ⟨(h3 k hk).1, Nat.lt_of_lt_of_le (h3 k hk).2 hg.size⟩⟩)
    | 7 => exact (by obtain ⟨g0, aa, cc, h1, h2, h3, h4, h5⟩ := h; exact ⟨g0, aa, cc, h1, h2.keep ⟨hg.os, hg.tape, hg.output, hg.size, hg.block⟩, fun k hk => ⟨(h3 k hk).1, Nat.lt_of_lt_of_le (h3 k hk).2.1 hg.size, (h3 k hk).2.2⟩, h4.keep ⟨hg.os, hg.tape, hg.output, hg.size, hg.block⟩, h5⟩)
    | n + 8 => trivial
  case rsteps =>
    simp only [List.take_succ_cons, List.take_zero]
    refine ⟨?_, ?_, ?_, ?_, ?_, ?_, ?_, ?_, trivial⟩
    · intro a x hA
      have t0 := hA.at_ 0 (by first | rfl | kernel_rfl) rfl
      refine step_value (w' := x) (v := .pointer (some ⟨q.N, 0, none⟩)) ?_ (Grows.refl _) ?_
      · go_simp
      · rfl
    · intro a x hA
      have t27 : a.tmps[27]?.getD undef = .pointer (some ⟨q.N, 0, none⟩) := hA.dep_ ⟨0, .data⟩ (by simp) _ 27 rfl rfl
      refine step_value (w' := x) (v := .pointer (some ⟨q.N, 0, none⟩)) ?_ (Grows.refl _) ?_
      · go_simp
      · rfl
    · intro a x hA
      have t28 : a.tmps[28]?.getD undef = .pointer (some ⟨q.N, 0, none⟩) := hA.dep_ ⟨1, .data⟩ (by simp) _ 28 rfl rfl
      refine step_value (w' := x) (v := .pointer (some ⟨q.N, 1, none⟩)) ?_ (Grows.refl _) ?_
      · go_simp
      · rfl
    · intro a x hA
      have t1 := hA.at_ 1 (by first | rfl | kernel_rfl) rfl
      refine step_value (w' := x) (v := .int .i64 to) ?_ (Grows.refl _) ?_
      · go_simp
      · rfl
    · intro a x hA
      have t2 := hA.at_ 2 (by first | rfl | kernel_rfl) rfl
      refine step_value (w' := x) (v := .slice av b.length cv) ?_ (Grows.refl _) ?_
      · go_simp
      · rfl
    · intro a x hA
      have t31 : a.tmps[31]?.getD undef = .slice av b.length cv := hA.dep_ ⟨4, .data⟩ (by simp) _ 31 rfl rfl
      have hvx := HA.out.2.2.2.keep hA.grown
      have hsz := hA.grown.size
      refine step_call (f := 62) (args := #[.slice av b.length cv]) (by clear hvx hsz; go_simp) ((slices_Clone _ b x hvx (by omega)).mono ?_)
      rintro e w' ⟨v', rfl, hb, ho, hbb⟩
      obtain ⟨aa, cc, rfl⟩ := hb.form
      exact ⟨_, rfl, hbb, aa, cc, rfl, hb, fun k hk => ⟨Nat.le_trans hsz (ho.blk k hk).1, (ho.blk k hk).2⟩⟩
    · intro a x hA
      have t30 : a.tmps[30]?.getD undef = .int .i64 to := hA.dep_ ⟨3, .data⟩ (by simp) _ 30 rfl rfl
      have t32 : ∃ aa cc, (a.tmps[32]?.getD undef) = .slice aa b.length cc ∧ Bs x (.slice aa b.length cc) b ∧ ∀ k, (Value.slice aa b.length cc).ownBlock = some k → W1.heap.size ≤ k ∧ k < x.heap.size := hA.dep_ ⟨5, .data⟩ (by simp) _ 32 rfl rfl
      obtain ⟨aa, cc, e32, hb, ho⟩ := t32
      refine step_value (w' := x) (v := .agg #[.int .i64 to, .slice aa b.length cc]) ?_ (Grows.refl _) ⟨aa, cc, rfl, hb, ho⟩
      clear hA
      go_simp
    · intro a x hA
      have t33 : ∃ aa cc, (a.tmps[33]?.getD undef) = .agg #[.int .i64 to, .slice aa b.length cc] ∧ Bs x (.slice aa b.length cc) b ∧ ∀ k, (Value.slice aa b.length cc).ownBlock = some k → W1.heap.size ≤ k ∧ k < x.heap.size := hA.dep_ ⟨6, .data⟩ (by simp) _ 33 rfl rfl
      obtain ⟨aa, cc, e33, hb, ho⟩ := t33
      have hsz := hA.grown.size
      have bx : Below x.heap.size x (x.alloc (.cells #[.int .i64 to, .slice aa b.length cc] 130)) := (Below.refl _ _).alloc (Nat.le_refl _) _
      refine step_value (w' := x.alloc (.cells #[.int .i64 to, .slice aa b.length cc] 130)) (v := .slice (some ⟨x.heap.size, 0, none⟩) 1 1) ?_ (Grows.alloc x _) ⟨x.heap.size, aa, cc, rfl, hb.keep bx, fun k hk => ⟨(ho k hk).1, Nat.lt_of_lt_of_le (ho k hk).2 bx.size, by have := (ho k hk).2; omega⟩, Blk.new _ _ _, hsz⟩
      clear hA hsz bx
      go_simp
  case rfin =>
    intro y W' hg hV
    simp only [List.take_succ_cons, List.take_zero, AllVals] at hV
    obtain ⟨-, -, e29, -, -, -, -, ⟨g0, aa, cc, e34, hb, ho, hk0, hg0⟩, -⟩ := hV
    have hb1 := grows_below hg
    clear hg
    simp only [List.take_succ_cons, List.take_zero, List.drop_succ_cons, List.drop_zero, putAll, Act.put, List.setIfInBounds_toArray, List.set_cons_zero, List.set_cons_succ]
    rw [e29, e34]
    clear e29 e34
    obtain ⟨a1, a2, a3, -⟩ := HA.out
    have a4 := a1.keep hb1
    obtain ⟨rs, hms⟩ := a4.ms
    have hlen := hms.len
    have HPT := hid (mrow_put rs to (.slice aa b.length cc) g0 1 a4.net hms.row (fun e => a4.nmo (hms.own _ e)) ⟨_, _, _, rfl⟩ ⟨_, hk0⟩ (by rw [hlen]; exact hroom))
    have HX := hid (And.intro a4 (And.intro hms (And.intro hb (And.intro ho hb1))))
    clear a1 a2 a3 a4 hms hlen hb ho hk0 hb1
    go_wp2_with fail
    refine HPT.out.mono ?_
    rintro e W3 ⟨⟨x3, rfl⟩, tv', k1, k2, k3, k4⟩
    obtain ⟨a4, hms, hb, ho, hb1⟩ := HX.out
    have hfin : NetPost W q (s.send to b) W3 := by
      have hs1 := hb1.size
      have hs3 := k4.size
      have hsW : W.heap.size ≤ W1.heap.size := HA.out.2.2.1.size
      have htN : ∀ g, tv'.ownBlock = some g → q.tv.ownBlock = some g ∨ W'.heap.size ≤ g := fun g hg => k3.elim (fun e => .inl (by rw [← e]; exact hg)) (fun e => .inr (by rw [e] at hg; injection hg with hg; omega))
      have hno : ∀ k, (Value.slice aa b.length cc).ownBlock = some k → ¬ q.mo k := fun k hk hc => by
        have h1 := (ho k hk).1
        obtain ⟨rs1, hm1⟩ := HA.out.1.ms
        have := hm1.lt k hc
        omega
      have hmlt : ∀ g, q.mo g → g < W1.heap.size := fun g hg => by obtain ⟨rs1, hm1⟩ := HA.out.1.ms; exact hm1.lt g hg
      refine ⟨⟨q.N, lv', tv', fun g => q.mo g ∨ (Value.slice aa b.length cc).ownBlock = some g ∨ tv'.ownBlock = some g⟩, ⟨k1, a4.luck.ext k4 (fun k hk hc => ?_), ⟨rs ++ [(to, .slice aa b.length cc)], ?_⟩, fun g hg => ?_, ?_⟩, rfl, ?_, ?_⟩
      · rcases hc with e | e
        · exact (a4.lvd k hk).1 e
        · exact (a4.lvd k hk).2 (hms.own k e)
      · rw [HS.out]
        refine hms.more k2 (hb.ext k4 (fun k hk _ hc => ?_)) hbl (fun g hg => .inl hg) (fun g hg => ⟨.inr (.inr hg), ?_⟩) (fun g hg => ⟨.inr (.inl hg), fun hc => ?_⟩) ?_ k4 (fun b hb2 hc => ?_)
        · rcases hc with e | e
          · have h1 := (ho k hk).1; omega
          · exact hno k hk (hms.own k e)
        · rcases htN g hg with e | e
          · exact .inl e
          · exact .inr (fun hc => by have := hmlt g hc; omega)
        · rcases htN g hc with e | e
          · exact hno g hg (hms.own g e)
          · have h1 := (ho g hg).2.1; omega
        · rintro g (hg | hg | hg)
          · have := hmlt g hg; omega
          · have := (ho g hg).2.1; omega
          · exact k2.lt g hg
        · rcases hc with e | e
          · exact absurd (e ▸ hb2) a4.nmo
          · exact e
      · refine ⟨(a4.lvd g hg).1, fun hc => ?_⟩
        have hgl := HA.out.1.luck.lt g hg
        rcases hc with hc | hc | hc
        · exact (a4.lvd g hg).2 hc
        · have := (ho g hc).1; omega
        · rcases htN g hc with e | e
          · exact (a4.lvd g hg).2 (hms.own g e)
          · omega
      · intro hc
        rcases hc with hc | hc | hc
        · exact a4.nmo hc
        · have h1 := (ho q.N hc).1; omega
        · rcases htN q.N hc with e | e
          · exact a4.nmo (hms.own _ e)
          · omega
      · rintro g (hg | hg | hg | hg | hg)
        · exact .inl (.inl hg)
        · exact HA.out.2.1 g (.inr (.inl hg))
        · exact .inl (.inr (.inr hg))
        · exact .inr (by have := (ho g hg).1; omega)
        · rcases htN g hg with e | e
          · exact .inl (.inr (.inr (hms.own g e)))
          · exact .inr (by omega)
      · refine (HA.out.2.2.1.then hb1).trans k4 (fun g hg => .inl ?_)
        rcases hg with e | e
        · exact .inl e
        · exact .inr (.inr (hms.own g e))
    have HF := hid hfin
    clear hfin k1 k2 k3 k4 a4 hms hb ho hb1 HX HPT
    go_wp2_with fail
    try (go_quiet (fail); go_wp2_with fail)
    go_ret2
    obtain ⟨q', z1, z2, z3, z4⟩ := HF.out
    refine ⟨rfl, ?_⟩
    first
      | exact ⟨q', z1.keep (((Below.refl _ _).alloc (Nat.le_refl _) _).alloc (by simp) _), z2, z3, z4.then (((Below.refl _ _).alloc (Nat.le_refl _) _).alloc (by simp) _)⟩
      | exact ⟨q', z1.keep (below_drewN (((Below.refl _ _).alloc (Nat.le_refl _) _).alloc (by simp) _) _), z2, z3, z4.then (below_drewN (((Below.refl _ _).alloc (Nat.le_refl _) _).alloc (by simp) _) _)⟩
theorem net_Send (h : NetAt W q s) (to : Int) (v : Value) (b : List UInt8) (hv : Bs W v b) (hbl : b.length ≤ 1000000) (hvo : ∀ g, v.ownBlock = some g → ¬ q.all g) (hroom : (s.late.length + 1) * 32 ≤ 140737488355328) :
    Calls Tryz.prog 33 #[.pointer (some ⟨q.N, 0, none⟩), .int .i64 to, v] W fun e w' => e = .returned (.tuple #[.int .i64 (timesF s.fate : Int), .bool (replyF s.fate)]) ∧ NetPost W q (s.send to b) w' := by
  by_cases hf : s.fate = 3
  · refine (net_Send_late h to v b hv hbl hvo hroom hf).mono ?_
    rintro e w' ⟨rfl, hp⟩
    exact ⟨by rw [hf]; rfl, hp⟩
  · exact net_Send_not h to v b hv hf
end
end Go.Proofs.YtcdcjoofcbdilaaGreat
