import Derived.Test.YtpkaepmmkojdaaaMRangeG
/-! Package store, on: write, whatever the fuse. -/
namespace Go.Proofs.Ytpkaepmmkojdaaa
open Go.RowKit
attribute [local go_sem] Oper.semAt_some

section
variable {W : World} {q : StP} {S S1 : St} {D : Dk}
/-- A store that fell, on a disk that turned. -/
theorem fall_at {W' : World} {D' : Dk} {x : Nat} (h : StAt W q S D) (V' : Nat → Prop) (he : Ext (fun b => b = q.p.d ∨ b = q.p.mv ∨ b = q.s ∨ b = x) W W') (hx : ∀ b, q.all b → b ≠ x) (hD : DkAt W' { q.p with V := V' } D') (hlen : D'.texts.length = D.texts.length) (hV : ∀ b, V' b → q.p.V b ∨ W.heap.size ≤ b)
    (hc : Blk W' q.s #[.pointer (some ⟨q.p.d, 0, none⟩), .map (some q.ms), .map (some q.mt), .int .i64 (S.fin : Int), .int .i64 (S.num : Int), .bool true] 60) :
    StAt W' { q with p := { q.p with V := V' } } { S with fallen := true } D' where
  cell := hc
  disk := hD
  slots := by
    obtain ⟨es, c, hm, hr, hv⟩ := h.slots
    refine ⟨es, c, hm.ext he (fun hc => ?_), hr, fun e he' => ?_⟩
    · rcases hc with hc | hc | hc | hc
      · exact h.ne.2.2.2.2.1 (.inl (.inl hc))
      · exact h.ne.2.2.2.2.1 (.inl (.inr (.inr (.inr hc))))
      · exact h.ne.1 hc.symm
      · exact hx _ (.inl (.inr (.inl rfl))) hc
    · obtain ⟨l, q1, q2, q3⟩ := hv e he'
      refine ⟨l, q1, q2.ext he (fun b hb hu => ?_), q3⟩
      rcases hb with hb | hb | hb | hb
      · exact (h.data b hu).2 (.inl (.inl hb))
      · exact (h.data b hu).2 (.inl (.inr (.inr (.inr hb))))
      · exact (h.data b hu).1 (.inl hb)
      · exact hx _ (.inr (.inl hu)) hb
  states := by
    obtain ⟨es, c, hm, hr⟩ := h.states
    refine ⟨es, c, hm.ext he (fun hc => ?_), hr⟩
    rcases hc with hc | hc | hc | hc
    · exact h.ne.2.2.2.2.2 (.inl (.inl hc))
    · exact h.ne.2.2.2.2.2 (.inl (.inr (.inr (.inr hc))))
    · exact h.ne.2.1 hc.symm
    · exact hx _ (.inl (.inr (.inr (.inl rfl)))) hc
  ne := by
    obtain ⟨a1, a2, a3, a4, a5, a6⟩ := h.ne
    have key : ∀ b, b < W.heap.size → ¬ q.p.all b → ¬ ({ q.p with V := V' } : DkP).all b := fun b hb hn hc => by
      rcases hc with hc | hc
      · exact hn (.inl hc)
      · rcases hV b hc with hc | hc
        · exact hn (.inr hc)
        · omega
    exact ⟨a1, a2, a3, key _ (h.size (.inl (.inl rfl))) a4, key _ (h.size (.inl (.inr (.inl rfl)))) a5, key _ (h.size (.inl (.inr (.inr (.inl rfl))))) a6⟩
  data := fun b hb => ⟨(h.data b hb).1, fun hc => by
    rcases hc with hc | hc
    · exact (h.data b hb).2 (.inl hc)
    · rcases hV b hc with hc | hc
      · exact (h.data b hb).2 (.inr hc)
      · have := h.lt b hb; omega⟩
  lt := fun b hb => Nat.lt_of_lt_of_le (h.lt b hb) he.size
  bound := by rw [hlen]; exact h.bound

set_option maxRecDepth 100000 in
set_option maxHeartbeats 1600000 in
theorem store_write_pow (h : StAt W q S D) (hoff : D.off = false) (R : Int × St × Dk) (hver : ∀ k, D.vers k = none) (kd lo po : Int) (v : Value) (l : List UInt8) (hv : Bs W v l) (hvo : ∀ g, v.ownBlock = some g → ¬ q.all g) (hl : l.length ≤ 65536)
    (hk0 : 0 ≤ kd) (hk1 : kd ≤ 255) (l0 : 0 ≤ lo) (l1 : lo < 281474976710656) (p0 : 0 ≤ po) (p1 : po < 281474976710656)
    (hfit : S.fin + chunks (entryB kd lo po l) ≤ D.texts.length) (hRok : D.lives (chunks (entryB kd lo po l) + 1) → R = (0, { S1 with fin := S.fin + chunks (entryB kd lo po l), num := S.num + 1 }, ((D.burn (chunks (entryB kd lo po l) + 1)).wrote S.fin (entryB kd lo po l) S.num (chunks (entryB kd lo po l))).synced)) (hRno : ∀ m, m < chunks (entryB kd lo po l) + 1 → D.lives m → ¬ D.lives (m + 1) → R = (8, { S with fallen := true }, D.cutAt S.fin (entryB kd lo po l) S.num m))
    (hdo : ∀ D' W1 q1, StAt W1 q1 S D' → q1.s = q.s → D'.texts.length = D.texts.length → ∀ v, Bs W1 v l → Calls Try.prog 16 #[.pointer (some ⟨q1.s, 0, none⟩), .agg #[.int .i64 kd, .int .i64 lo, .int .i64 po, v], .int .i64 (chunks (entryB kd lo po l) : Int)] W1 fun e w' => (∃ v, e = .returned v) ∧ (∃ q', StAt w' q' { S1 with fin := S.fin + chunks (entryB kd lo po l), num := S.num + 1 } D' ∧ Moves q1 q' W1.heap.size) ∧ Ext (fun b => b = q1.s ∨ b = q1.ms ∨ b = q1.mt) W1 w') :
    Calls Try.prog 44 #[.pointer (some ⟨q.s, 0, none⟩), .agg #[.int .i64 kd, .int .i64 lo, .int .i64 po, v]] W fun e w' => e = .returned (.int .i64 R.1) ∧ (∃ q', StAt w' q' R.2.1 R.2.2 ∧ q'.s = q.s ∧ q'.ms = q.ms ∧ q'.mt = q.mt ∧ SameDk q'.p q.p ∧ ∀ b, q'.all b → q.all b ∨ W.heap.size ≤ b) ∧ Ext q.own W w' := by
  obtain ⟨av, cv, rfl⟩ := hv.form
  obtain ⟨EB, hEB⟩ : ∃ EB, EB = entryB kd lo po l := ⟨_, rfl⟩
  rw [← hEB] at hfit hdo hRok hRno
  have hfu := h.disk.fuse.1
  have hlow := h.disk.low
  obtain ⟨W1, hW1⟩ : ∃ W1, W.alloc (.cells #[.pointer (some ⟨q.s, 0, none⟩)] 27) = W1 := ⟨_, rfl⟩
  obtain ⟨W2, hW2⟩ : ∃ W2, W1.alloc (.cells #[.int .i64 kd, .int .i64 lo, .int .i64 po, .slice av l.length cv] 62) = W2 := ⟨_, rfl⟩
  have s1 : W1.heap.size = W.heap.size + 1 := by rw [← hW1]; simp
  have s2 : W2.heap.size = W.heap.size + 2 := by rw [← hW2]; simp [s1]
  have b2 : Below W.heap.size W W2 := by rw [← hW2, ← hW1]; exact ((Below.refl _ W).alloc (Nat.le_refl _) _).alloc (by simp) _
  have r0 : Blk W2 W.heap.size #[.pointer (some ⟨q.s, 0, none⟩)] 27 := by rw [← hW2, ← hW1]; exact (Blk.new W _ _).alloc _
  have r1 : Blk W2 (W.heap.size + 1) #[.int .i64 kd, .int .i64 lo, .int .i64 po, .slice av l.length cv] 62 := by rw [← hW2]; exact Blk.new' W1 _ s1.symm _ _
  obtain ⟨W3, hW3⟩ : ∃ W3, W2.alloc (.cells #[.int .i64 0] 24) = W3 := ⟨_, rfl⟩
  have s3 : W3.heap.size = W.heap.size + 3 := by rw [← hW3]; simp [s2]
  have r2 : Blk W3 (W.heap.size + 2) #[.int .i64 0] 24 := by rw [← hW3]; exact Blk.new' W2 _ s2.symm _ _
  have b3 : Below W2.heap.size W2 W3 := by rw [← hW3]; exact (Below.refl _ W2).alloc (Nat.le_refl _) _
  have r0 := r0.keep b3
  have r1 := r1.keep b3
  have b4 : Below W.heap.size W W3 := b2.trans (b3.mono b2.size)
  have e0 := r1.cell (o := 0) rfl
  have e1 := r1.cell (o := 1) rfl
  have e2 := r1.cell (o := 2) rfl
  have e3 := r1.cell (o := 3) rfl
  refine callsIn_wide.1 (callsIn_of_wp_marks (n := 0) Try.func44 rfl trivial ?_)
  simp only [Try.ntmps44, List.size_toArray, List.length_cons, List.length_nil, Nat.reduceAdd, Nat.reduceSub, Array.replicate_succ, Array.replicate_zero, List.push_toArray, List.append_toArray, List.nil_append, List.cons_append]
  gi_wp2
  refine ⟨trivial, rfl, callsIn_wide.2 ((entry_bytes kd lo po _ l W3 hk0 hk1 l0 l1 p0 p1 (hv.keep b4) (by omega)).mono ?_)⟩
  rintro e W4 ⟨v5, rfl, o5, b5⟩
  rw [← hEB] at o5
  have hEl : EB.length ≤ l.length + 13 := by rw [hEB]; simp [entryB, lowB_length]; omega
  obtain ⟨a5, c5, rfl⟩ := o5.form
  have q0 := r0.keep b5
  have q1 := r1.keep b5
  have q2 := r2.keep b5
  have h4 := (h.keep b4).keep b5
  have b6 : Below W.heap.size W W4 := b4.trans (b5.mono b4.size)
  have hs4 := b5.size
  have hdv : ((EB.length : Int) + 240 - 1) / 240 = (chunks EB : Int) := by unfold chunks; omega
  have hd2 : Int.tdiv ((EB.length : Int) + 240 - 1) 240 = (chunks EB : Int) := by rw [Int.tdiv_eq_ediv_of_nonneg (by omega)]; exact hdv
  have z0 := q0.cell (o := 0) rfl
  have hmost := h.disk.most
  have hch : chunks EB ≤ 274 := by unfold chunks; omega
  have hEBh := hid hEB
  clear hEB hW1 hW2 hW3 s1 s2 r0 r1 r2 e0 e1 e2 e3 b2 b3 b4
  gi_wp2
  refine ⟨trivial, rfl, callsIn_wide.2 ((store_Free h4).mono ?_)⟩
  rintro e W5 ⟨rfl, b7⟩
  have q0 := q0.keep b7
  have q1 := q1.keep b7
  have q2 := q2.keep b7
  have h5 := h4.keep b7
  have o6 := o5.keep b7
  have b8 : Below W.heap.size W W5 := b6.trans (b7.mono b6.size)
  have hs5 := b7.size
  have hd3 : decide ((chunks EB : Int) > ((D.texts.length - S.fin : Nat) : Int)) = false := decide_eq_false (by omega)
  have z0 := q0.cell (o := 0) rfl
  have z4 : W5.cell? ⟨q.s, 4, none⟩ = some (.int .i64 (S.num : Int)) := h5.cell.cell (o := 4) rfl
  clear h4 o5 b6 b7 hdv hd2
  gi_wp2
  refine ⟨trivial, rfl, callsIn_wide.2 ((store_blocks _ _ _ _ W5).mono ?_)⟩
  rintro e W6 ⟨rfl, hW6⟩
  have b9 : Below W5.heap.size W5 W6 := by rw [hW6]; exact ((Below.refl _ W5).alloc (Nat.le_refl _) _).alloc (by simp) _
  have s6 : W6.heap.size = W5.heap.size + 2 := by rw [hW6]; simp
  have bb6 : Blk W6 W5.heap.size #[.slice a5 EB.length c5] 40 := by rw [hW6]; exact (Blk.new W5 _ _).alloc _
  have bn6 : Blk W6 (W5.heap.size + 1) #[.int .i64 (S.num : Int)] 3 := by rw [hW6]; exact Blk.new' _ _ (by simp) _ _
  have q0 := q0.keep b9
  have q1 := q1.keep b9
  have q2 := q2.keep b9
  have h6 := h5.keep b9
  have o7 := o6.keep b9
  have hbW6 : Below W.heap.size W W6 := b8.trans (b9.mono b8.size)
  obtain ⟨sb, hsb⟩ : ∃ sb, sb = W.heap.size := ⟨_, rfl⟩
  have hszW := hbW6.size
  have hdk := h6.disk
  have hnum := h6.bound
  have hqs := h6.size (b := q.s) (.inl (.inl rfl))
  have hqs0 := h.size (b := q.s) (.inl (.inl rfl))
  obtain ⟨d1, d2, d3, d4, d5⟩ := h.disk.base
  have hown := o6.blk
  have HNX := hid (show ∀ b, q.all b → b ≠ sb + 2 from fun b hb e => by have := h.size hb; omega)
  clear hW6 b9 h5 o6 b8 z0 z4
  gi_wp2
  refine wpIn_rangeQ (gf := 63) (lb := #[.pointer (some ⟨W5.heap.size, 0, none⟩), .pointer (some ⟨W5.heap.size + 1, 0, none⟩)]) ?g ?eg (N := chunks EB) (Y := BlockY EB (S.num : Int) (W6.heap.size + 9)) (fp := fun b => b = q.p.d ∨ b = q.p.mv ∨ b = q.s ∨ b = sb + 2) (M := W6.heap.size + 9) ?hM ?hit
    (fun k W => ∃ V', DkAt W { q.p with V := V' } ((D.burn k).wrote S.fin EB (S.num : Int) k) ∧ (∀ b, V' b → q.p.V b ∨ W6.heap.size + 9 ≤ b) ∧ Ext (fun b => b = q.p.d ∨ b = q.p.mv) W6 W ∧ D.lives k)
    (fun c k W => c = .ret ∧ ∃ V', DkAt W { q.p with V := V' } (D.cutAt S.fin EB (S.num : Int) k) ∧ (∀ b, V' b → q.p.V b ∨ W6.heap.size + 9 ≤ b) ∧ Blk W q.s #[.pointer (some ⟨q.p.d, 0, none⟩), .map (some q.ms), .map (some q.mt), .int .i64 (S.fin : Int), .int .i64 (S.num : Int), .bool true] 60 ∧ Blk W (sb + 2) #[.int .i64 8] 24 ∧ Ext (fun b => b = q.p.d ∨ b = q.p.mv ∨ b = q.s ∨ b = sb + 2) W6 W ∧ k < chunks EB ∧ D.lives k ∧ ¬ D.lives (k + 1)) ?hI ?hIx ?hY ?hYs ?hfp ?h0 #[7, 8] ?hassign ?hbody ?hdone ?hstop
  case g => rfl
  case eg => intro args w; rfl
  case hM => omega
  case hit =>
    intro W7 hbW hsW
    have := blocks_iter W5.heap.size (W5.heap.size + 1) a5 c5 EB (S.num : Int) (fun b => (b = q.p.d ∨ b = q.p.mv ∨ b = q.s ∨ b = sb + 2) ∨ b = W6.heap.size + 1) W7 (bb6.below hbW bb6.lt) (bn6.below hbW bn6.lt) (o7.bs.keep hbW) (by omega) (by omega) (by omega) ?_ ?_ ?_ ?_
    · rw [show W7.heap.size = W6.heap.size + 2 from by omega] at this
      exact this
    · omega
    · omega
    · intro g hg
      have := hown g hg
      exact ⟨by omega, by omega⟩
    · intro b hb
      omega
  case hI =>
    rintro k A B ⟨V', hD, hV', hx, hlv⟩ he
    refine ⟨V', hD.ext he (by simp only; omega) (by simp only; omega) (by simp only; omega) (by simp only; omega) (fun b hb hv => ?_), hV', hx.trans he (fun b hb => .inr (by omega)), hlv⟩
    rcases hV' b hv with h9 | h9
    · have := d5 b h9; omega
    · omega
  case hIx =>
    rintro c k A B ⟨hc, V', hD, hV', hc1, hc2, hx, hlv⟩ he
    refine ⟨hc, V', hD.ext he (by simp only; omega) (by simp only; omega) (by simp only; omega) (by simp only; omega) (fun b hb hv => ?_), hV', hc1.ext he (by omega), hc2.ext he (by omega), hx.trans he (fun b hb => .inr (by omega)), hlv⟩
    rcases hV' b hv with h9 | h9
    · have := d5 b h9; omega
    · omega
  case hY =>
    rintro k A B args ⟨v, rfl, hbv, ho⟩ he
    exact ⟨v, rfl, hbv.ext he (fun g hg _ h => by have := ho g hg; omega), ho⟩
  case hYs =>
    rintro k A args ⟨v, rfl, _⟩
    rfl
  case hfp =>
    rintro b (h | h | h | h)
    · omega
    · omega
    · omega
    · omega
  case h0 => exact ⟨q.p.V, by rw [Dk.wrote_zero, Dk.burn_zero]; exact hdk, fun b hb => .inl hb, Ext.refl _ _, Dk.lives_zero hfu⟩
  case hassign =>
    intro m args W K hs hK
    obtain ⟨v, v', rfl⟩ : ∃ v v', args = #[v, v'] := by
      match args, hs with
      | ⟨[v, v']⟩, _ => exact ⟨v, v', rfl⟩
    rw [rangeAct_two] at hK
    simp only [List.setIfInBounds_toArray, List.set_cons_zero, List.set_cons_succ] at hK
    gi_wp2
    exact hK
  case hstop =>
    rintro c k WS ⟨rfl, V', hD, hV', hc1, hc2, hx, hkn, hlv, hln⟩ hdf
    have hR := hRno k (by omega) hlv hln
    rw [s6] at hdf
    have hput := ext_putObj WS (W5.heap.size + 2) (.deferred none)
    have z2 := (hc2.ext hput (by omega)).cell (o := 0) rfl
    rw [hsb] at z2
    obtain ⟨qq, hqq⟩ : ∃ qq : StP, qq = { q with p := { q.p with V := V' } } := ⟨_, rfl⟩
    have hfin := fall_at h6 V' hx (fun b hb e => HNX.out b hb e) hD (by simp [Dk.cutAt, Dk.wrote]) (fun b hb => (hV' b hb).imp id (fun h => by omega)) hc1
    have hfin2 := hfin.ext hput (fun b hb hc => by
      rcases hc with (hc | hc | hc | hc) | hc | hc
      · have e1 : b = q.s := hc; have e2 : b = W5.heap.size + 2 := hb; omega
      · have := h.size (b := q.ms) (.inl (.inr (.inl rfl))); have : b = q.ms := hc; have e2 : b = W5.heap.size + 2 := hb; omega
      · have := h.size (b := q.mt) (.inl (.inr (.inr (.inl rfl)))); have : b = q.mt := hc; have e2 : b = W5.heap.size + 2 := hb; omega
      · have := h.size (b := b) (.inl (.inr (.inr (.inr hc)))); have e2 : b = W5.heap.size + 2 := hb; omega
      · have := h.size (b := b) (.inr (.inl hc)); have e2 : b = W5.heap.size + 2 := hb; omega
      · rcases hV' b hc with h9 | h9
        · have := d5 b h9; have e2 : b = W5.heap.size + 2 := hb; omega
        · have e2 : b = W5.heap.size + 2 := hb; omega)
    have hall : ∀ b, StP.all { q with p := { q.p with V := V' } } b → q.all b ∨ W.heap.size ≤ b := by
      rintro b (hb | hb | hb)
      · exact .inl (.inl hb)
      · exact .inl (.inr (.inl hb))
      · rcases hV' b hb with hb | hb
        · exact .inl (.inr (.inr hb))
        · exact .inr (by omega)
    have hxx : Ext q.own W (WS.putObj (W5.heap.size + 2) (.deferred none)) := ((Ext.ofBelow hbW6 : Ext q.own W W6).trans hx (fun b hb => by
      rcases hb with hb | hb | hb | hb
      · exact .inl (.inr (.inr (.inr (.inl hb))))
      · exact .inl (.inr (.inr (.inr (.inr (.inr (.inr hb))))))
      · exact .inl (.inl hb)
      · exact .inr (by omega))).trans hput (fun b hb => .inr (by omega))
    have HF := hid (And.intro hfin2 (And.intro hall hxx))
    have HR := hid hR
    have HDF := hid hdf
    clear hfin hfin2 hall hxx hR hqq hdf hD hc1
    gi_wp2
    refine ⟨by simp, .inl ⟨_, _, rfl, run_takeDeferred HDF.out, .int .i64 8, ?_, ?_⟩⟩
    · simp [results, Try.results44, go_sem, z2]
    · rw [HR.out]
      exact ⟨rfl, ⟨_, HF.out.1, rfl, rfl, rfl, ⟨rfl, rfl⟩, HF.out.2.1⟩, HF.out.2.2⟩
  case hbody =>
    rintro m k WB args hk ⟨V', hD, hV', hx, hlv⟩ ⟨vx, rfl, hbx, hox⟩ hM
    rw [rangeAct_two]
    simp only [List.setIfInBounds_toArray, List.set_cons_zero, List.set_cons_succ]
    rw [← hsb] at q0
    rw [← hsb]
    have iS := q0.ext hx (by omega)
    have iC := h6.cell.ext hx (fun hc => h6.ne.2.2.2.1 (.inl (by
      rcases hc with hc | hc
      · exact .inl hc
      · exact .inr (.inr (.inr hc)))))
    have hbl := blockB_length (chunkOf EB k) (S.num : Int) (chunks EB) k (by rw [chunkOf_length]; omega)
    have hwk : IntKind.i64.wrap ((S.fin : Int) + (k : Int)) = (S.fin : Int) + (k : Int) := by rw [IntKind.wrap_i64]; omega
    have iR : Blk WB (sb + 2) #[.int .i64 0] 24 := by rw [hsb]; exact q2.ext hx (by omega)
    have Hsb := hid hsb
    clear hsb
    gi_wp2
    refine wpIn_region_tail 11 rfl Stays (fun i v x => match i with
        | 0 => v = .pointer (some ⟨q.s, 0, none⟩)
        | 1 => v = .pointer (some ⟨q.s, 0, none⟩)
        | 2 => v = .pointer (some ⟨q.s, 0, none⟩)
        | 3 => v = .pointer (some ⟨q.p.d, 0, none⟩)
        | 4 => v = .pointer (some ⟨q.s, 0, none⟩)
        | 5 => v = .pointer (some ⟨q.s, 0, none⟩)
        | 6 => v = .pointer (some ⟨q.s, 3, none⟩)
        | 7 => v = .int .i64 (S.fin : Int)
        | 8 => v = .int .i64 (k : Int)
        | 9 => v = .int .i64 ((S.fin : Int) + (k : Int))
        | 10 => v = vx
        | _ => True) (by kernel_rfl) (Stays.refl _) Stays.trans ?rstab ?rsteps ?rfin
    case rstab =>
      intro i v x y hg h
      match i with
      | 0 | 1 | 2 | 3 | 4 | 5 | 6 | 7 | 8 | 9 | 10 => exact h
      | n + 11 => trivial
    case rsteps =>
      simp only [List.take_succ_cons, List.take_zero]
      refine ⟨?_, ?_, ?_, ?_, ?_, ?_, ?_, ?_, ?_, ?_, ?_, trivial⟩
      · intro a x hA
        have t2 := hA.at_ 2 (by rfl) rfl
        have hxe : x = WB.drew := hA.grow
        have cS : x.cell? ⟨sb, 0, none⟩ = some (.pointer (some ⟨q.s, 0, none⟩)) := by rw [hxe]; exact iS.cell (o := 0) rfl
        have c0 : x.cell? ⟨q.s, 0, none⟩ = some (.pointer (some ⟨q.p.d, 0, none⟩)) := by rw [hxe]; exact iC.cell (o := 0) rfl
        have c3 : x.cell? ⟨q.s, 3, none⟩ = some (.int .i64 (S.fin : Int)) := by rw [hxe]; exact iC.cell (o := 3) rfl
        clear hxe
        refine stepIn_value (fun _ => trivial) rfl (w' := x) (v := .pointer (some ⟨q.s, 0, none⟩)) ?_ (Stays.refl _) ?_
        · go_simp
        · rfl
      · intro a x hA
        have t28 : a.tmps[28]?.getD undef = .pointer (some ⟨q.s, 0, none⟩) := hA.dep_ ⟨0, .data⟩ (by simp) _ 28 rfl rfl
        refine stepIn_value (fun _ => trivial) rfl (w' := x) (v := .pointer (some ⟨q.s, 0, none⟩)) ?_ (Stays.refl _) ?_
        · go_simp
        · rfl
      · intro a x hA
        have t29 : a.tmps[29]?.getD undef = .pointer (some ⟨q.s, 0, none⟩) := hA.dep_ ⟨1, .data⟩ (by simp) _ 29 rfl rfl
        refine stepIn_value (fun _ => trivial) rfl (w' := x) (v := .pointer (some ⟨q.s, 0, none⟩)) ?_ (Stays.refl _) ?_
        · go_simp
        · rfl
      · intro a x hA
        have t30 : a.tmps[30]?.getD undef = .pointer (some ⟨q.s, 0, none⟩) := hA.dep_ ⟨2, .data⟩ (by simp) _ 30 rfl rfl
        have hxe : x = WB.drew := hA.grow
        have cS : x.cell? ⟨sb, 0, none⟩ = some (.pointer (some ⟨q.s, 0, none⟩)) := by rw [hxe]; exact iS.cell (o := 0) rfl
        have c0 : x.cell? ⟨q.s, 0, none⟩ = some (.pointer (some ⟨q.p.d, 0, none⟩)) := by rw [hxe]; exact iC.cell (o := 0) rfl
        have c3 : x.cell? ⟨q.s, 3, none⟩ = some (.int .i64 (S.fin : Int)) := by rw [hxe]; exact iC.cell (o := 3) rfl
        clear hxe
        refine stepIn_value (fun _ => trivial) rfl (w' := x) (v := .pointer (some ⟨q.p.d, 0, none⟩)) ?_ (Stays.refl _) ?_
        · go_simp
        · rfl
      · intro a x hA
        have t2 := hA.at_ 2 (by rfl) rfl
        have hxe : x = WB.drew := hA.grow
        have cS : x.cell? ⟨sb, 0, none⟩ = some (.pointer (some ⟨q.s, 0, none⟩)) := by rw [hxe]; exact iS.cell (o := 0) rfl
        have c0 : x.cell? ⟨q.s, 0, none⟩ = some (.pointer (some ⟨q.p.d, 0, none⟩)) := by rw [hxe]; exact iC.cell (o := 0) rfl
        have c3 : x.cell? ⟨q.s, 3, none⟩ = some (.int .i64 (S.fin : Int)) := by rw [hxe]; exact iC.cell (o := 3) rfl
        clear hxe
        refine stepIn_value (fun _ => trivial) rfl (w' := x) (v := .pointer (some ⟨q.s, 0, none⟩)) ?_ (Stays.refl _) ?_
        · go_simp
        · rfl
      · intro a x hA
        have t32 : a.tmps[32]?.getD undef = .pointer (some ⟨q.s, 0, none⟩) := hA.dep_ ⟨4, .data⟩ (by simp) _ 32 rfl rfl
        refine stepIn_value (fun _ => trivial) rfl (w' := x) (v := .pointer (some ⟨q.s, 0, none⟩)) ?_ (Stays.refl _) ?_
        · go_simp
        · rfl
      · intro a x hA
        have t33 : a.tmps[33]?.getD undef = .pointer (some ⟨q.s, 0, none⟩) := hA.dep_ ⟨5, .data⟩ (by simp) _ 33 rfl rfl
        refine stepIn_value (fun _ => trivial) rfl (w' := x) (v := .pointer (some ⟨q.s, 3, none⟩)) ?_ (Stays.refl _) ?_
        · go_simp
        · rfl
      · intro a x hA
        have t34 : a.tmps[34]?.getD undef = .pointer (some ⟨q.s, 3, none⟩) := hA.dep_ ⟨6, .data⟩ (by simp) _ 34 rfl rfl
        have hxe : x = WB.drew := hA.grow
        have cS : x.cell? ⟨sb, 0, none⟩ = some (.pointer (some ⟨q.s, 0, none⟩)) := by rw [hxe]; exact iS.cell (o := 0) rfl
        have c0 : x.cell? ⟨q.s, 0, none⟩ = some (.pointer (some ⟨q.p.d, 0, none⟩)) := by rw [hxe]; exact iC.cell (o := 0) rfl
        have c3 : x.cell? ⟨q.s, 3, none⟩ = some (.int .i64 (S.fin : Int)) := by rw [hxe]; exact iC.cell (o := 3) rfl
        clear hxe
        refine stepIn_value (fun _ => trivial) rfl (w' := x) (v := .int .i64 (S.fin : Int)) ?_ (Stays.refl _) ?_
        · go_simp
        · rfl
      · intro a x hA
        have t7 := hA.at_ 7 (by rfl) rfl
        refine stepIn_value (fun _ => trivial) rfl (w' := x) (v := .int .i64 (k : Int)) ?_ (Stays.refl _) ?_
        · go_simp
        · rfl
      · intro a x hA
        have t35 : a.tmps[35]?.getD undef = .int .i64 (S.fin : Int) := hA.dep_ ⟨7, .data⟩ (by simp) _ 35 rfl rfl
        have t36 : a.tmps[36]?.getD undef = .int .i64 (k : Int) := hA.dep_ ⟨8, .data⟩ (by simp) _ 36 rfl rfl
        refine stepIn_value (fun _ => trivial) rfl (w' := x) (v := .int .i64 ((S.fin : Int) + (k : Int))) ?_ (Stays.refl _) ?_
        · go_simp
        · rfl
      · intro a x hA
        have t8 := hA.at_ 8 (by rfl) rfl
        refine stepIn_value (fun _ => trivial) rfl (w' := x) (v := vx) ?_ (Stays.refl _) ?_
        · go_simp
        · rfl
    case rfin =>
      intro y W' hg hV
      simp only [List.take_succ_cons, List.take_zero, AllVals] at hV
      obtain ⟨u0, u1, u2, u3, u4, u5, u6, u7, u8, u9, u10, _⟩ := hV
      simp only [List.take_succ_cons, List.take_zero, List.drop_succ_cons, List.drop_zero, putAll, Act.put, List.setIfInBounds_toArray, List.set_cons_zero, List.set_cons_succ]
      obtain rfl : W' = WB.drew := hg
      rw [u3, u9, u10]
      clear u0 u1 u2 u3 u4 u5 u6 u7 u8 u9 u10
      have hD' : DkAt WB.drew { q.p with V := V' } ((D.burn k).wrote S.fin EB (S.num : Int) k) := hD.keep ((Below.refl _ WB).drew)
      by_cases hlv2 : D.lives (k + 1)
      · have hgo : ((D.burn k).wrote S.fin EB (S.num : Int) k).goes = true := Dk.burn_goes D k hoff hlv2
        have hW := disk_Write hD' hgo ((S.fin : Int) + (k : Int)) vx _ (hbx.keep ((Below.refl _ WB).drew)) (fun hc => by have := hox _ hc; simp only at this; omega) hbl (by omega) (by show (S.fin : Int) + (k : Int) < (D.texts.length : Int); omega) (by show (if _ then _ else _) = none; rw [if_neg (by omega)]; exact hver _)
        rw [show ((D.burn k).wrote S.fin EB (S.num : Int) k).spent = (D.burn (k + 1)).wrote S.fin EB (S.num : Int) k from by rw [← Dk.burn_spent D k hlv2]; rfl, Dk.wrote_succ] at hW
        clear hD'
        gi_wp2
        refine ⟨trivial, fun h => by simp [Fence.wide, Fence.inRound] at h, CallsIn.inRound _ ((callsIn_wide.2 hW).mono ?_)⟩
        rintro e W9 ⟨rfl, ⟨V'', hD9, hV9⟩, hx9⟩
        clear hW
        gi_wp2
        have hx9' : Ext (fun b => b = q.p.d ∨ b = q.p.mv) WB W9 := ((Ext.refl _ WB).drew).trans' hx9
        refine ⟨hx9'.mono (fun b _ hb => hb.elim .inl (fun h => .inr (.inl h))), V'', hD9, fun b hb => ?_, hx.trans' hx9', hlv2⟩
        rcases hV9 b hb with h9 | h9
        · exact hV' b h9
        · exact .inr (Nat.le_trans hM h9)
      · have hgo : ((D.burn k).wrote S.fin EB (S.num : Int) k).goes = false := Dk.burn_stops D k hlv hlv2
        have hW := disk_Write_fails hD' hgo ((S.fin : Int) + (k : Int)) vx _ (hbx.keep ((Below.refl _ WB).drew)) hbl (by omega) (by show (S.fin : Int) + (k : Int) < (D.texts.length : Int); omega)
        rw [show ((D.burn k).wrote S.fin EB (S.num : Int) k).fail = D.cutAt S.fin EB (S.num : Int) k from by unfold Dk.fail; rw [if_neg (by rw [show ((D.burn k).wrote S.fin EB (S.num : Int) k).off = D.off from rfl, hoff]; decide)]; rfl] at hW
        clear hD'
        gi_wp2
        refine ⟨trivial, fun h => by simp [Fence.wide, Fence.inRound] at h, CallsIn.inRound _ ((callsIn_wide.2 hW).mono ?_)⟩
        rintro e W9 ⟨rfl, hD9, hx9⟩
        clear hW
        have hx9' : Ext (fun b => b = q.p.d) WB W9 := ((Ext.refl _ WB).drew).trans' hx9
        have hqd : q.s ≠ q.p.d := fun e => h6.ne.2.2.2.1 (.inl (.inl e))
        have hsbd : sb ≠ q.p.d ∧ sb + 2 ≠ q.p.d ∧ sb ≠ q.s ∧ sb + 2 ≠ q.s := by have := Hsb.out; omega
        have jS := iS.ext hx9' (by omega)
        have jC := iC.ext hx9' hqd
        have jR := iR.ext hx9' (by omega)
        have c0 := jS.cell (o := 0) rfl
        have c1 := jC.cell (o := 5) rfl
        have c2 := jC.free 5
        have jR2 := jR.setOther (a := ⟨q.s, 5, none⟩) (by show sb + 2 ≠ q.s; omega) (.bool true)
        have c3 := jR2.cell (o := 0) rfl
        have c4 := jR2.free 0
        have jC2 := jC.set (o := 5) (.bool true)
        have jC3 := jC2.setOther (a := ⟨sb + 2, 0, none⟩) (by show q.s ≠ sb + 2; omega) (.int .i64 8)
        have jR3 := jR2.set (o := 0) (.int .i64 8)
        have hx10 : Ext (fun b => b = q.s ∨ b = sb + 2) W9 ((W9.setCell ⟨q.s, 5, none⟩ (.bool true)).setCell ⟨sb + 2, 0, none⟩ (.int .i64 8)) := ((Ext.refl (fun b => b = q.s ∨ b = sb + 2) W9).setCell (a := ⟨q.s, 5, none⟩) (.inl (.inl rfl)) _).setCell (a := ⟨sb + 2, 0, none⟩) (.inl (.inr rfl)) _
        have hsb9 := Hsb.out
        have hD10 := hD9.ext hx10 (by simp only; omega) (by simp only; intro hc; rcases hc with hc | hc; exact h6.ne.2.2.2.1 (.inl (.inr (.inl hc.symm))); omega) (by simp only; intro hc; rcases hc with hc | hc; exact h6.ne.2.2.2.1 (.inl (.inr (.inr (.inl hc.symm)))); omega) (by simp only; intro hc; rcases hc with hc | hc; exact h6.ne.2.2.2.1 (.inl (.inr (.inr (.inr hc.symm)))); omega) (fun b hb hv => by
          rcases hV' b hv with h9 | h9
          · rcases hb with hb | hb
            · exact h6.ne.2.2.2.1 (.inr (hb ▸ h9))
            · have := d5 b h9; have := Hsb.out; omega
          · have := Hsb.out; omega)
        clear hsb9
        have HH := hid (And.intro jC3 (And.intro jR3 (And.intro hx10 (And.intro hx9' hD10))))
        clear jC3 jR3 hx10 hx9' hD10 jC2 jR2 jR jC jS hD9 hx9
        gi_wp2
        obtain ⟨jC3, jR3, hx10, hx9', hD10⟩ := HH.out
        have hxA : Ext (fun b => b = q.p.d ∨ b = q.p.mv ∨ b = q.s ∨ b = sb + 2) WB ((W9.setCell ⟨q.s, 5, none⟩ (.bool true)).setCell ⟨sb + 2, 0, none⟩ (.int .i64 8)) := (hx9'.mono (fun b _ hb => .inl hb) : Ext (fun b => b = q.p.d ∨ b = q.p.mv ∨ b = q.s ∨ b = sb + 2) WB W9).trans hx10 (fun b hb => .inl (.inr (.inr hb)))
        refine ⟨hxA, k, rfl, V', hD10, hV', ?_, ?_, (hx.mono (fun b _ hb => hb.elim .inl (fun h => .inr (.inl h)))).trans' hxA, hk, hlv, hlv2⟩
        · simpa using jC3
        · simpa using jR3
  case hdone =>
    rintro W7 ⟨V', hD, hV', hx, hlv⟩ hdef
    have z0 := (q0.ext hx (by omega)).cell (o := 0) rfl
    have z1 := (h6.cell.ext hx (fun hc => h6.ne.2.2.2.1 (.inl (by
      rcases hc with hc | hc
      · exact .inl hc
      · exact .inr (.inr (.inr hc)))))).cell (o := 0) rfl
    by_cases hlv2 : D.lives (chunks EB + 1)
    · have hgo : ((D.burn (chunks EB)).wrote S.fin EB (S.num : Int) (chunks EB)).goes = true := Dk.burn_goes D _ hoff hlv2
      have hSy := disk_Sync hD hgo
      rw [show ((D.burn (chunks EB)).wrote S.fin EB (S.num : Int) (chunks EB)).spent = (D.burn (chunks EB + 1)).wrote S.fin EB (S.num : Int) (chunks EB) from by rw [← Dk.burn_spent D _ hlv2]; rfl] at hSy
      gi_wp2
      refine ⟨trivial, rfl, callsIn_wide.2 (hSy.mono ?_)⟩
      rintro e W8 ⟨rfl, hD8, hx8⟩
      have hxo : Ext q.p.own W6 W8 := (hx.mono (fun b _ hb => by
        rcases hb with hb | hb
        · exact .inl hb
        · exact .inr (.inr (.inr hb)))).trans hx8 (fun b hb => .inl hb)
      have hlen : ((D.burn (chunks EB + 1)).wrote S.fin EB (S.num : Int) (chunks EB)).synced.texts.length = D.texts.length := by show (List.mapIdx _ D.texts).length = _; exact List.length_mapIdx
      obtain ⟨qq, hqq⟩ : ∃ qq : StP, qq = { q with p := { q.p with V := V' } } := ⟨_, rfl⟩
      have hS8 : StAt W8 qq S ((D.burn (chunks EB + 1)).wrote S.fin EB (S.num : Int) (chunks EB)).synced := by
        rw [hqq]
        exact h6.disk_change V' hxo hD8 hlen (fun b hb => (hV' b hb).imp id (fun h => by omega))
      have hno : ∀ b, W.heap.size ≤ b → b < W6.heap.size → ¬ q.p.own b := fun b hb _ hc => by
        rcases hc with hc | hc | hc | hc <;> omega
      have w0 := (q0.ext hxo (hno _ (Nat.le_refl _) (by omega))).cell (o := 0) rfl
      have bE8 := q1.ext hxo (hno _ (by omega) (by omega))
      have w1 := bE8.cell (o := 0) rfl
      have w2 := bE8.cell (o := 1) rfl
      have w3 := bE8.cell (o := 2) rfl
      have w4 := bE8.cell (o := 3) rfl
      have hv8 : Bs W8 (.slice av l.length cv) l := (hv.keep hbW6).ext hxo (fun g hg _ hc => hvo g hg (.inl (.inr (.inr (.inr hc)))))
      have hdef8 : W8.heap[W6.heap.size]? = some (.deferred (some [])) := (hx8.block _ (Array.getElem?_eq_some_iff.1 hdef).1 (by rintro (hc | hc | hc | hc) <;> omega)).trans hdef
      have hr8 := q2.ext hxo (hno _ (by omega) (by omega))
      have hqs8 : qq.s = q.s := by rw [hqq]
      have hDo := hdo _ W8 qq hS8 hqs8 hlen _ hv8
      rw [hqs8] at hDo
      have Hqq := hid hqq
      have Hqs := hid hqs8
      clear hqq hdo hx8 hSy hD hD8 z0 z1 hqs8
      gi_wp2
      refine ⟨trivial, rfl, callsIn_wide.2 (hDo.mono ?_)⟩
      rintro e W9 ⟨⟨v9, rfl⟩, ⟨q', hS9, hm9⟩, hx9⟩
      clear hDo
      have hms : ∀ b, b = qq.ms → b < W.heap.size := fun b hb => by
        rw [hb, Hqq.out]
        exact h.size (b := q.ms) (.inl (.inr (.inl rfl)))
      have hmt : ∀ b, b = qq.mt → b < W.heap.size := fun b hb => by
        rw [hb, Hqq.out]
        exact h.size (b := q.mt) (.inl (.inr (.inr (.inl rfl))))
      have hr9 := hr8.ext hx9 (by
        rintro (hc | hc | hc)
        · omega
        · have := hms _ hc; omega
        · have := hmt _ hc; omega)
      have hdef9 : W9.heap[W6.heap.size]? = some (.deferred (some [])) := (hx9.block _ (Array.getElem?_eq_some_iff.1 hdef8).1 (by
        rintro (hc | hc | hc)
        · omega
        · have := hms _ hc; omega
        · have := hmt _ hc; omega)).trans hdef8
      have k0 := hr9.cell (o := 0) rfl
      have f0 := hr9.free 0
      gi_wp2
      have hsetE : Ext (fun b => b = W.heap.size + 2) W9 (W9.setCell ⟨W.heap.size + 2, 0, none⟩ (.int .i64 0)) := (Ext.refl (fun b => b = W.heap.size + 2) W9).setCell (a := ⟨W.heap.size + 2, 0, none⟩) (.inl rfl) _
      have hrA := hr9.set (o := 0) (.int .i64 0)
      have hdefA : (W9.setCell ⟨W.heap.size + 2, 0, none⟩ (.int .i64 0)).heap[W5.heap.size + 2]? = some (.deferred (some [])) := by
        rw [← s6]
        exact (hsetE.block _ (Array.getElem?_eq_some_iff.1 hdef9).1 (by omega)).trans hdef9
      have hw9 : W6.heap.size < W8.heap.size := (Array.getElem?_eq_some_iff.1 hdef8).1
      generalize W9.setCell ⟨W.heap.size + 2, 0, none⟩ (.int .i64 0) = WA at *
      have hput := ext_putObj WA (W5.heap.size + 2) (.deferred none)
      have hrB := hrA.ext hput (by omega)
      have hcB := hrB.cell (o := 0) rfl
      have hall : ∀ b, q'.all b → q.all b ∨ W6.heap.size < b := by
        intro b hb
        have e1 := hm9.s
        have e2 := hm9.ms
        have e3 := hm9.mt
        have e4 := hm9.p
        rw [Hqq.out] at e1 e2 e3 e4
        simp only at e1 e2 e3 e4
        rcases hb with (hb | hb | hb | hb) | hb | hb
        · exact .inl (.inl (.inl (by rw [hb, e1])))
        · exact .inl (.inl (.inr (.inl (by rw [hb, e2]))))
        · exact .inl (.inl (.inr (.inr (.inl (by rw [hb, e3])))))
        · rw [e4] at hb
          exact .inl (.inl (.inr (.inr (.inr hb))))
        · rcases hm9.U b hb with hb | hb
          · rw [Hqq.out] at hb
            exact .inl (.inr (.inl hb))
          · exact .inr (by omega)
        · rw [e4] at hb
          rcases hV' b hb with hb | hb
          · exact .inl (.inr (.inr hb))
          · exact .inr (by omega)
      have hxAB : Ext (fun b => b = W.heap.size + 2 ∨ b = W5.heap.size + 2) W9 (WA.putObj (W5.heap.size + 2) (.deferred none)) := (hsetE.mono (fun b _ hb => .inl hb)).trans hput (fun b hb => .inl (.inr hb))
      have hSB := hS9.ext hxAB (fun b hb hc => by
        rcases hall b hc with h9 | h9
        · have := h.size h9; omega
        · omega)
      rw [hRok hlv2]
      refine ⟨by simp, .inl ⟨_, _, rfl, run_takeDeferred hdefA, .int .i64 0, ?_, rfl, ⟨q', hSB, ?_, ?_, ?_, ?_, fun b hb => (hall b hb).imp id (fun h => by omega)⟩, ?_⟩⟩
      · simp [results, Try.results44, go_sem, hcB]
      · rw [hm9.s, Hqq.out]
      · rw [hm9.ms, Hqq.out]
      · rw [hm9.mt, Hqq.out]
      · rw [hm9.p, Hqq.out]
        exact ⟨rfl, rfl⟩
      · have h1 : Ext q.own W W8 := (Ext.ofBelow hbW6 : Ext q.own W W6).trans hxo (fun b hb => .inl (.inr (.inr (.inr hb))))
        have h2 : Ext q.own W W9 := h1.trans hx9 (fun b hb => .inl (by
          rcases hb with hb | hb | hb
          · exact .inl hb
          · rw [Hqq.out] at hb; exact .inr (.inl hb)
          · rw [Hqq.out] at hb; exact .inr (.inr (.inl hb))))
        exact h2.trans hxAB (fun b hb => .inr (by omega))
    · have hgo : ((D.burn (chunks EB)).wrote S.fin EB (S.num : Int) (chunks EB)).goes = false := Dk.burn_stops D _ hlv hlv2
      have hSy := disk_Sync_fails hD hgo
      rw [show ((D.burn (chunks EB)).wrote S.fin EB (S.num : Int) (chunks EB)).fail = D.cutAt S.fin EB (S.num : Int) (chunks EB) from by unfold Dk.fail; rw [if_neg (by rw [show ((D.burn (chunks EB)).wrote S.fin EB (S.num : Int) (chunks EB)).off = D.off from rfl, hoff]; decide)]; rfl] at hSy
      have hR := hRno (chunks EB) (by omega) hlv hlv2
      gi_wp2
      refine ⟨trivial, rfl, callsIn_wide.2 (hSy.mono ?_)⟩
      rintro e W8 ⟨rfl, hD8, hx8⟩
      rw [s6] at hdef
      have hqd : q.s ≠ q.p.d := fun e => h6.ne.2.2.2.1 (.inl (.inl e))
      have hxo : Ext (fun b => b = q.p.d ∨ b = q.p.mv) W6 W8 := hx.trans hx8 (fun b hb => .inl (.inl hb))
      have hno : ∀ b, W.heap.size ≤ b → b < W6.heap.size → ¬ (b = q.p.d ∨ b = q.p.mv) := fun b hb _ hc => by omega
      have jS := q0.ext hxo (hno _ (Nat.le_refl _) (by omega))
      have jR := q2.ext hxo (hno _ (by omega) (by omega))
      have jC := h6.cell.ext hxo (fun hc => h6.ne.2.2.2.1 (.inl (by
        rcases hc with hc | hc
        · exact .inl hc
        · exact .inr (.inr (.inr hc)))))
      have c0 := jS.cell (o := 0) rfl
      have c1 := jC.cell (o := 5) rfl
      have c2 := jC.free 5
      have jR2 := jR.setOther (a := ⟨q.s, 5, none⟩) (by show W.heap.size + 2 ≠ q.s; omega) (.bool true)
      have c3 := jR2.cell (o := 0) rfl
      have c4 := jR2.free 0
      have jC2 := jC.set (o := 5) (.bool true)
      have jC3 := jC2.setOther (a := ⟨W.heap.size + 2, 0, none⟩) (by show q.s ≠ W.heap.size + 2; omega) (.int .i64 8)
      have jR3 := jR2.set (o := 0) (.int .i64 8)
      have hx10 : Ext (fun b => b = q.s ∨ b = W.heap.size + 2) W8 ((W8.setCell ⟨q.s, 5, none⟩ (.bool true)).setCell ⟨W.heap.size + 2, 0, none⟩ (.int .i64 8)) := ((Ext.refl (fun b => b = q.s ∨ b = W.heap.size + 2) W8).setCell (a := ⟨q.s, 5, none⟩) (.inl (.inl rfl)) _).setCell (a := ⟨W.heap.size + 2, 0, none⟩) (.inl (.inr rfl)) _
      have hD10 := hD8.ext hx10 (by simp only; omega) (by simp only; intro hc; rcases hc with hc | hc; exact h6.ne.2.2.2.1 (.inl (.inr (.inl hc.symm))); omega) (by simp only; intro hc; rcases hc with hc | hc; exact h6.ne.2.2.2.1 (.inl (.inr (.inr (.inl hc.symm)))); omega) (by simp only; intro hc; rcases hc with hc | hc; exact h6.ne.2.2.2.1 (.inl (.inr (.inr (.inr hc.symm)))); omega) (fun b hb hv => by
        rcases hV' b hv with h9 | h9
        · rcases hb with hb | hb
          · exact h6.ne.2.2.2.1 (.inr (hb ▸ h9))
          · have := d5 b h9; omega
        · omega)
      have hdef10 : ((W8.setCell ⟨q.s, 5, none⟩ (.bool true)).setCell ⟨W.heap.size + 2, 0, none⟩ (.int .i64 8)).heap[W5.heap.size + 2]? = some (.deferred (some [])) :=
        (hx10.block _ (by have := (Array.getElem?_eq_some_iff.1 hdef).1; have := hx8.size; omega) (by omega)).trans ((hx8.block _ (Array.getElem?_eq_some_iff.1 hdef).1 (by omega)).trans hdef)
      have HH := hid (And.intro jC3 (And.intro jR3 (And.intro hx10 (And.intro hxo (And.intro hD10 (And.intro hdef10 hR))))))
      clear jC3 jR3 hx10 hxo hD10 hdef10 jC2 jR2 jR jC jS hD8 hx8 hR hSy hD hx
      gi_wp2
      obtain ⟨jC3, jR3, hx10, hxo, hD10, hdef10, hR⟩ := HH.out
      clear HH
      generalize (W8.setCell ⟨q.s, 5, none⟩ (.bool true)).setCell ⟨W.heap.size + 2, 0, none⟩ (.int .i64 8) = WS at *
      simp only [List.setIfInBounds_toArray, List.set_cons_zero, List.set_cons_succ] at jC3 jR3
      have hx : Ext (fun b => b = q.p.d ∨ b = q.p.mv ∨ b = q.s ∨ b = sb + 2) W6 WS := (hxo.mono (fun b _ hb => hb.elim .inl (fun h => .inr (.inl h))) : Ext (fun b => b = q.p.d ∨ b = q.p.mv ∨ b = q.s ∨ b = sb + 2) W6 W8).trans hx10 (fun b hb => .inl (.inr (.inr (by rw [hsb]; exact hb))))
      have hput := ext_putObj WS (W5.heap.size + 2) (.deferred none)
      have z2 := (jR3.ext hput (by omega)).cell (o := 0) rfl
      have hfin := fall_at h6 V' hx (fun b hb e => HNX.out b hb e) hD10 (by simp [Dk.cutAt, Dk.wrote]) (fun b hb => (hV' b hb).imp id (fun h => by omega)) jC3
      have hfin2 := hfin.ext hput (fun b hb hc => by
        rcases hc with (hc | hc | hc | hc) | hc | hc
        · have e1 : b = q.s := hc; have e2 : b = W5.heap.size + 2 := hb; omega
        · have := h.size (b := q.ms) (.inl (.inr (.inl rfl))); have : b = q.ms := hc; have e2 : b = W5.heap.size + 2 := hb; omega
        · have := h.size (b := q.mt) (.inl (.inr (.inr (.inl rfl)))); have : b = q.mt := hc; have e2 : b = W5.heap.size + 2 := hb; omega
        · have := h.size (b := b) (.inl (.inr (.inr (.inr hc)))); have e2 : b = W5.heap.size + 2 := hb; omega
        · have := h.size (b := b) (.inr (.inl hc)); have e2 : b = W5.heap.size + 2 := hb; omega
        · rcases hV' b hc with h9 | h9
          · have := d5 b h9; have e2 : b = W5.heap.size + 2 := hb; omega
          · have e2 : b = W5.heap.size + 2 := hb; omega)
      have hall : ∀ b, StP.all { q with p := { q.p with V := V' } } b → q.all b ∨ W.heap.size ≤ b := by
        rintro b (hb | hb | hb)
        · exact .inl (.inl hb)
        · exact .inl (.inr (.inl hb))
        · rcases hV' b hb with hb | hb
          · exact .inl (.inr (.inr hb))
          · exact .inr (by omega)
      have hxx : Ext q.own W (WS.putObj (W5.heap.size + 2) (.deferred none)) := ((Ext.ofBelow hbW6 : Ext q.own W W6).trans hx (fun b hb => by
        rcases hb with hb | hb | hb | hb
        · exact .inl (.inr (.inr (.inr (.inl hb))))
        · exact .inl (.inr (.inr (.inr (.inr (.inr (.inr hb))))))
        · exact .inl (.inl hb)
        · exact .inr (by omega))).trans hput (fun b hb => .inr (by omega))
      refine ⟨by simp, .inl ⟨_, _, rfl, run_takeDeferred hdef10, .int .i64 8, ?_, ?_⟩⟩
      · simp [results, Try.results44, go_sem, z2]
      · rw [hR]
        exact ⟨rfl, ⟨_, hfin2, rfl, rfl, rfl, ⟨rfl, rfl⟩, hall⟩, hxx⟩

end

end Go.Proofs.Ytpkaepmmkojdaaa
