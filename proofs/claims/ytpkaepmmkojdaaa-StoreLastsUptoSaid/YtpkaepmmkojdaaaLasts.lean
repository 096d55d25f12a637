import Derived.Test.YtpkaepmmkojdaaaMLastM
import Derived.BigQuiet
/-! gazettelaw04.StoreLasts: the walk. -/
namespace Go.Proofs.Ytpkaepmmkojdaaa
open Go.RowKit
theorem idd_gload {P : Program} {ops : Array Oper} {Q : Exit → Act → World → Prop} {l : List Oper} {a : Act} {w : World} {d : Option Nat} {k : Nat} {ty : TypeId} {p : String} {e : Array Edge} {g : Nat × Bool}
    (h : wpList P ops Q ({ dst := d, op := .load 39 (.tmp k), type := ty, pos := p, after := e, guard := some g } :: l) a w) : wpList P ops Q ({ dst := d, op := .load 39 (.tmp k), type := ty, pos := p, after := e, guard := some g } :: l) a w := h
theorem idd_gneq {P : Program} {ops : Array Oper} {Q : Exit → Act → World → Prop} {l : List Oper} {a : Act} {w : World} {d : Option Nat} {k m : Nat} {ty : TypeId} {p : String} {e : Array Edge} {g : Nat × Bool}
    (h : wpList P ops Q ({ dst := d, op := .binOp .neq 39 (.tmp k) (.tmp m) 39, type := ty, pos := p, after := e, guard := some g } :: l) a w) : wpList P ops Q ({ dst := d, op := .binOp .neq 39 (.tmp k) (.tmp m) 39, type := ty, pos := p, after := e, guard := some g } :: l) a w := h
theorem idd_geql {P : Program} {ops : Array Oper} {Q : Exit → Act → World → Prop} {l : List Oper} {a : Act} {w : World} {d : Option Nat} {k m : Nat} {ty : TypeId} {p : String} {e : Array Edge} {g : Nat × Bool}
    (h : wpList P ops Q ({ dst := d, op := .binOp .eql 39 (.tmp k) (.tmp m) 39, type := ty, pos := p, after := e, guard := some g } :: l) a w) : wpList P ops Q ({ dst := d, op := .binOp .eql 39 (.tmp k) (.tmp m) 39, type := ty, pos := p, after := e, guard := some g } :: l) a w := h
theorem wpList_wanted9 {P : Program} {ops : Array Oper} {Q : Exit → Act → World → Prop} {a : Act} {w : World} {rest : List Oper} {o : Oper} (hw : Region.wanted o (yielded ops a.tmps) = true)
    (h : ∀ K : Act → World → Prop, (∀ a w, wpList P ops Q rest a w → K a w) → o.wp P a w K Q) : wpList P ops Q (o :: rest) a w :=
  wpList_step fun K hK => by rw [if_pos hw]; exact h K hK
theorem wp_neq_dec {P : Program} {t : TypeId} {x y : Operand} {o : Oper} {t' : TypeId} {a : Act} {cs ds : Array Value} {b : Bool} {w : World} {K : Act → World → Prop} {Q : Exit → Act → World → Prop} (ho : o.op = .binOp .neq t x y t') (hx : a.eval x = .agg cs) (hy : a.eval y = .agg ds) (hg : P.eqGuardType P.depth t = false) (hs : ∀ w, (Op.equalIn Op.maxDepth t (.agg cs) (.agg ds)).run P w = .ok b w)
    (h : K (a.put o.dst (.bool (!b))) w) : o.wp P a w K Q := by
  unfold Oper.wp
  rw [run_neq_dec ho hx hy hg hs w]
  exact h
theorem wp_eql_dec {P : Program} {t : TypeId} {x y : Operand} {o : Oper} {t' : TypeId} {a : Act} {cs ds : Array Value} {b : Bool} {w : World} {K : Act → World → Prop} {Q : Exit → Act → World → Prop} (ho : o.op = .binOp .eql t x y t') (hx : a.eval x = .agg cs) (hy : a.eval y = .agg ds) (hg : P.eqGuardType P.depth t = false) (hs : ∀ w, (Op.equalIn Op.maxDepth t (.agg cs) (.agg ds)).run P w = .ok b w)
    (h : K (a.put o.dst (.bool b)) w) : o.wp P a w K Q := by
  unfold Oper.wp
  rw [run_eql_dec ho hx hy hg hs w]
  exact h
theorem told_fresh : told St.fresh = #[.string ⟨#[]⟩, .string ⟨#[]⟩, .string ⟨#[]⟩, .string ⟨#[]⟩, .string ⟨#[]⟩, .string ⟨#[]⟩, .string ⟨#[]⟩, .string ⟨#[]⟩, .string ⟨#[]⟩, .string ⟨#[]⟩, .string ⟨#[]⟩, .string ⟨#[]⟩, .string ⟨#[]⟩, .string ⟨#[]⟩, .string ⟨#[]⟩, .string ⟨#[]⟩, .string ⟨#[]⟩, .string ⟨#[]⟩, .bool false, .bool false, .bool false, .bool false, .bool false, .bool false, .bool false, .bool false, .bool false, .bool false, .bool false, .bool false, .bool false, .bool false, .bool false, .bool false, .bool false, .bool false, .bool false, .bool false, .bool false, .int .i64 0, .int .i64 0, .int .i64 0] := by
  have h1 : tData St.fresh = fun _ => .string ⟨#[]⟩ := by
    funext j
    unfold tData getF
    split <;> rfl
  have h2 : tThere St.fresh = fun _ => .bool false := by
    funext j
    unfold tThere getF
    split <;> rfl
  unfold told
  rw [h1, h2]
  rfl
theorem fresh_law (n : Nat) (hn : n ≤ 4096) : LawAt (Dk.fresh n) [] St.fresh none :=
  ⟨⟨⟨fun e he => (by cases he), rfl, trivial, fun i _ h2 => ⟨rfl, fresh_texts n i (by rw [fresh_len] at h2; exact h2)⟩, Nat.zero_le _, by rw [fresh_len]; exact hn⟩, ⟨rfl, rfl, fun _ => rfl⟩⟩, by show -1 ≤ (-1 : Int); omega, fun h => absurd rfl h, fun _ => by show (0 : Int) ≤ 5; omega, fun _ => by show (0 : Int) ≤ 5; omega⟩
theorem get_nonneg {W : World} {q : StP} {S : St} {D : Dk} (h : StAt W q S D) (a : Int) : 0 ≤ (S.get a).2.1 := by
  obtain ⟨tl, tr, sl, h1, _, _, h4, _⟩ := S.get_form h a
  rw [h1]
  exact h4
theorem owned_empty (W : World) (t : TypeId) : OwnI (W.alloc (.cells #[] t)) W.heap.size t (.slice (some ⟨W.heap.size, 0, none⟩) 0 0) [] :=
  ⟨by simp, .inr ⟨W.heap.size, 0, #[], rfl, Nat.le_refl _, Blk.new W _ _, Nat.le_refl _, Nat.zero_le _, rfl, rfl⟩⟩
set_option maxRecDepth 100000 in
set_option maxHeartbeats 40000000 in
theorem law_lasts (b : Int) (v : Value) (l : List Opr) (W : World) (hv : Ops W v l) (hl : l.length ≤ 9223372036854775807) (hi : ∀ x ∈ l, OprOk x) :
    Calls Try.prog 3 #[.int .i64 b, v] W fun e W' => e = .returned (.bool true) ∧ Below W.heap.size W W' := by
  obtain ⟨av, cv, rfl, hr⟩ := id hv
  clear hr
  obtain ⟨hm0, hm1⟩ := mod3_bound b 60 (by omega)
  obtain ⟨n, hn⟩ : ∃ n : Nat, 2 + mod3 b 60 = (n : Int) := ⟨(2 + mod3 b 60).toNat, by omega⟩
  have hw1 := mod3_wrap b 60 (by omega) (by omega)
  unfold mod3 at hn hm0 hm1
  have hw2 : wrap64 (2 + (b.tmod 60 + 60).tmod 60) = (n : Int) := by
    rw [← hn]
    generalize (b.tmod 60 + 60).tmod 60 = t at hm0 hm1
    unfold wrap64
    omega
  have hn1 : 1 ≤ n := by generalize (b.tmod 60 + 60).tmod 60 = t at hm0 hm1 hn; omega
  have hn2 : n ≤ 4096 := by generalize (b.tmod 60 + 60).tmod 60 = t at hm0 hm1 hn; omega
  clear hm0 hm1 hn
  go_enter Try.func3, Try.ntmps3
  go_wp2_with fail
  refine (disk_New n W hn1 hn2).mono ?_
  rintro e W1 ⟨p, rfl, hD, b1, hp⟩
  clear hw1 hw2
  go_wp2_with fail
  refine (store_Open_fresh n hD).mono ?_
  rintro e W2 ⟨q, rfl, hS, b2, hqp, hqa, hqb, hqc, hqU⟩
  have b12 : Below W.heap.size W W2 := b1.trans (b2.mono b1.size)
  have hall : ∀ b, q.all b → W.heap.size ≤ b := fun b hb => by
    have h1 := b1.size
    rcases hb with (hb | hb | hb | hb) | hb | hb
    · omega
    · omega
    · omega
    · rw [hqp] at hb; exact hp b (.inl hb)
    · rw [hqU] at hb; exact hb.elim
    · rw [hqp] at hb; exact hp b (.inr hb)
  have hqd : q.p.d = p.d := by rw [hqp]
  clear hD b1 b2 hp hqp hqa hqb hqc hqU
  go_wp2_with fail
  refine (law_num _ _).mono ?_
  rintro e w' ⟨rfl, rfl⟩
  go_wp2_with fail
  refine (law_num _ _).mono ?_
  rintro e w' ⟨rfl, rfl⟩
  go_wp2_with fail
  refine (law_knows _).mono ?_
  rintro e W4 ⟨rfl, b3⟩
  have hS4 := hS.keep b3
  have b14 := b12.trans (b3.mono b12.size)
  have hFL := hid (fresh_law n hn2)
  clear hS b12 b3
  obtain ⟨pd, hpd⟩ : ∃ pd, p.d = pd := ⟨_, rfl⟩
  rw [hpd] at hqd ⊢
  clear hpd
  obtain ⟨qs0, hqs0⟩ : ∃ s, q.s = s := ⟨_, rfl⟩
  rw [hqs0]
  obtain ⟨W5, hW5⟩ : ∃ W5, W4.alloc (.cells #[.string ⟨#[]⟩, .string ⟨#[]⟩, .string ⟨#[]⟩, .string ⟨#[]⟩, .string ⟨#[]⟩, .string ⟨#[]⟩, .string ⟨#[]⟩, .string ⟨#[]⟩, .string ⟨#[]⟩, .string ⟨#[]⟩, .string ⟨#[]⟩, .string ⟨#[]⟩, .string ⟨#[]⟩, .string ⟨#[]⟩, .string ⟨#[]⟩, .string ⟨#[]⟩, .string ⟨#[]⟩, .string ⟨#[]⟩, .bool false, .bool false, .bool false, .bool false, .bool false, .bool false, .bool false, .bool false, .bool false, .bool false, .bool false, .bool false, .bool false, .bool false, .bool false, .bool false, .bool false, .bool false, .bool false, .bool false, .bool false, .int .i64 0, .int .i64 0, .int .i64 0] 39) = W5 := ⟨_, rfl⟩
  obtain ⟨W6, hW6⟩ : ∃ W6, W5.alloc (.cells #[.string ⟨#[]⟩, .string ⟨#[]⟩, .string ⟨#[]⟩, .string ⟨#[]⟩, .string ⟨#[]⟩, .string ⟨#[]⟩, .string ⟨#[]⟩, .string ⟨#[]⟩, .string ⟨#[]⟩, .string ⟨#[]⟩, .string ⟨#[]⟩, .string ⟨#[]⟩, .string ⟨#[]⟩, .string ⟨#[]⟩, .string ⟨#[]⟩, .string ⟨#[]⟩, .string ⟨#[]⟩, .string ⟨#[]⟩, .bool false, .bool false, .bool false, .bool false, .bool false, .bool false, .bool false, .bool false, .bool false, .bool false, .bool false, .bool false, .bool false, .bool false, .bool false, .bool false, .bool false, .bool false, .bool false, .bool false, .bool false, .int .i64 0, .int .i64 0, .int .i64 0] 39) = W6 := ⟨_, rfl⟩
  have b45 : Below W4.heap.size W4 W5 := by rw [← hW5]; exact (Below.refl _ W4).alloc (Nat.le_refl _) _
  have b56 : Below W5.heap.size W5 W6 := by rw [← hW6]; exact (Below.refl _ W5).alloc (Nat.le_refl _) _
  have s5 : W5.heap.size = W4.heap.size + 1 := by rw [← hW5]; simp
  have k5 : Blk W5 W4.heap.size (told St.fresh) 39 := by rw [told_fresh, ← hW5]; exact Blk.new W4 _ _
  have k6 : Blk W6 W5.heap.size (told St.fresh) 39 := by rw [told_fresh, ← hW6]; exact Blk.new W5 _ _
  have hz := told_size St.fresh
  have ha := told_all St.fresh
  have H6 : LastAt W W6 pd q St.fresh (Dk.fresh n) W4.heap.size W5.heap.size (told St.fresh) (told St.fresh) := by
    have h1 := b14.size
    refine ⟨(hS4.keep b45).keep b56, hqd, k5.keep b56, k6, ⟨fun hc => ?_, fun hc => ?_, by omega⟩, hall, ⟨h1, by omega⟩, (b14.trans (b45.mono h1)).trans (b56.mono (by omega))⟩
    · have := hS4.size hc; omega
    · have := hS4.size hc; omega
  have H7 := hid (H6.setMay (told St.fresh))
  have kM := H6.may
  clear hS4 b14 hall hqd b45 b56 s5 H6 k6
  go_wp2_with (first | ((with_reducible (refine idd_load ?_)); (first | (refine wpList_load_row rfl 39 _ rfl W4.heap.size rfl 39 (told St.fresh) (0, 0) _ k5 rfl rfl (by rw [hz]; exact size_told) ?_) )) | ((with_reducible (refine idd_store ?_)); (first | (refine wpList_store_row rfl 39 _ _ rfl W5.heap.size (told St.fresh) rfl rfl 39 _ kM (by rw [hz]; exact size_told) (by first | rfl | (rw [hz]; exact hz)) ha ?_) )))
  clear hW5 hW6 k5 kM hz ha
  obtain ⟨TS, hTS⟩ : ∃ TS, W4.heap.size = TS := ⟨_, rfl⟩
  obtain ⟨TM, hTM⟩ : ∃ TM, W5.heap.size = TM := ⟨_, rfl⟩
  obtain ⟨W7, hW7⟩ : ∃ W7, W6.setRow W5.heap.size (told St.fresh) = W7 := ⟨_, rfl⟩
  rw [hTS, hTM] at H7
  rw [hTM] at hW7
  rw [hTS, hTM, hW7]
  rw [hW7] at H7
  clear hTS hTM hW7
  go_loopw [7, 11] (fun sv i wr => ∃ (k : Nat) (q : StP) (S : St) (D : Dk) (es : List Entv) (oe : Option Entv), k ≤ l.length ∧ i = .int .i64 (k : Int) ∧ sv = .pointer (some ⟨q.s, 0, none⟩) ∧ LawAt D es S oe ∧ LastAt W wr pd q S D TS TM (told S) (told (mayS S oe))) (fun _ i _ => l.length - (intOf i).toNat)
  case atStart => exact ⟨0, q, St.fresh, Dk.fresh n, [], none, by omega, rfl, by rw [hqs0], hFL.out, H7.out⟩
  case round =>
    obtain ⟨k, q', S, D, es, oe, hk, rfl, rfl, hLaw, hL⟩ := hrel
    clear H7 hFL hqs0
    by_cases hlt : k < l.length
    · have hd1 : decide ((k : Int) < (l.length : Int)) = true := decide_eq_true (by omega)
      obtain ⟨o, ho⟩ : ∃ o, l[k]? = some o := ⟨l[k], by simp⟩
      have hoo := hi o (List.mem_of_getElem? ho)
      obtain ⟨_, _, e0, hr⟩ := id hv
      obtain ⟨g, f, e1, hop⟩ := hr k o ho
      injection e0 with e0 e02 e03
      clear e02 hr ho
      subst e03
      rw [e1] at e0
      clear e1
      subst e0
      obtain ⟨bv, lv, c0, c1, c2, c3, c4, c5, c6, c7, hb, hLi⟩ := hop.open2 hL.below
      obtain ⟨od, ol, op, on, orp, ob, os, oll⟩ := o
      obtain ⟨bg, bc, rfl⟩ := hb.form
      have hLi0 := hLi
      obtain ⟨lg, lc, rfl, hL2⟩ := hLi0
      clear hL2 hop hv
      simp only at c0 c1 c2 c3 c4 c5 c6 c7 hb hLi
      obtain ⟨W6, hW6⟩ : ∃ W6, wr.alloc (.cells #[.int .i64 od, .int .i64 ol, .int .i64 op, .int .i64 on, .bool orp, .slice bg ob.length bc, .int .i64 os, .slice lg oll.length lc] 43) = W6 := ⟨_, rfl⟩
      have b6 : Below wr.heap.size wr W6 := by rw [← hW6]; exact (Below.refl _ wr).alloc (Nat.le_refl _) _
      have bE : Blk W6 wr.heap.size #[.int .i64 od, .int .i64 ol, .int .i64 op, .int .i64 on, .bool orp, .slice bg ob.length bc, .int .i64 os, .slice lg oll.length lc] 43 := by rw [← hW6]; exact Blk.new wr _ _
      have H6 := hid (hL.keep b6)
      have HTS := hid (show wr.heap.size ≠ TS ∧ wr.heap.size ≠ TM from by have h1 := hL.sure.lt; have h2 := hL.may.lt; omega)
      have HTO := hid (show ∀ b, q'.all b → b ≠ wr.heap.size from fun b hb e => by have := hL.st.size hb; omega)
      have e0 := bE.cell (o := 0) rfl
      have e1 := bE.cell (o := 1) rfl
      have e2 := bE.cell (o := 2) rfl
      have e3 := bE.cell (o := 3) rfl
      have e4 := bE.cell (o := 4) rfl
      have e5 := bE.cell (o := 5) rfl
      have e6 := bE.cell (o := 6) rfl
      have e7 := bE.cell (o := 7) rfl
      have HBE := hid bE
      have HB0 := hid (And.intro hb (And.intro hLi hoo))
      have HLaw := hid hLaw
      have HK := hid hlt
      clear b6 hL bE hb hLi hoo hLaw hlt
      by_cases h4 : od = 4
      · as_aux_lemma =>
        have hb4 : (od == 4) = true := beq_iff_eq.2 h4
        have hwn := mod3_wrap on 12 (by omega) (by omega)
        obtain ⟨hm0, hm1⟩ := mod3_bound on 12 (by omega)
        unfold mod3 at hm0 hm1
        have HC := hid (last_cut H6.out ((on.tmod 12 + 12).tmod 12) (by omega))
        clear h4 hm0 hm1
        go_wp2_with fail
        refine HC.out.mono ?_
        rintro e W7 ⟨⟨x, rfl⟩, hL7⟩
        have HL7 := hid hL7
        clear hL7 HC hW6 e0 e1 e2 e3 e4 e5 e6 e7 c0 c1 c2 c3 c4 c5 c6 c7
        go_wp2_with fail
        go_roundw
        case rel => exact ⟨k + 1, q', S, _, es, oe, by have := HK.out; omega, by go_num, rfl, HLaw.out.cut _, HL7.out⟩
        case measure => have := HK.out; simp [intOf]; omega
      have hb4 : (od == 4) = false := beq_eq_false_iff_ne.2 h4
      clear h4
      by_cases h5 : od = 5
      · as_aux_lemma =>
        have hb5 : (od == 5) = true := beq_iff_eq.2 h5
        clear h5
        obtain ⟨i0, hi0, hieq⟩ := Option.map_eq_some_iff.1 info_int
        simp only [Prod.mk.injEq] at hieq
        obtain ⟨hz0, hz1, hz2⟩ := hieq
        have hO2 := owned_empty W6 3
        have b62 : Below W6.heap.size W6 (W6.alloc (.cells #[] 3)) := (Below.refl _ W6).alloc (Nat.le_refl _) _
        have hI2 := (HB0.out.2.1.keep H6.out.below).keep b62
        obtain ⟨v2, w2, hr2, ho2, hg2, hv2⟩ := run_appendI (P := Try.prog) Try.underlying41 hi0 hz0 hz1 hz2 41 hO2 hI2 (by have : oll.length ≤ 1073741824 := HB0.out.2.2.l; simp only [List.length_nil, Nat.zero_add]; omega) b62.size
        rw [List.nil_append] at ho2
        have b6w : Below W6.heap.size W6 w2 := b62.grown hg2 b62.size (fun k hk => by cases hk; exact Nat.le_refl _)
        have hLw := H6.out.keep b6w
        have hC := last_crash hLw v2 oll (owned_is ho2) (fun g hg hc => by
          have h1 := H6.out.st.size (.inl (.inr (.inr (.inr hc))))
          rcases hv2 g hg with h9 | h9
          · have : W6.heap.size = g := by simpa [Value.ownBlock] using h9
            omega
          · simp at h9; omega) (by have : oll.length ≤ 1073741824 := HB0.out.2.2.l; omega)
        obtain ⟨va, vn, vc, hvf⟩ : ∃ a n c, v2 = .slice a n c := by
          rcases ho2.2 with ⟨e, _⟩ | ⟨g, cap, _, e, _⟩
          · exact ⟨_, _, _, e⟩
          · exact ⟨_, _, _, e⟩
        have bE2 := HBE.out.keep b6w
        have j0 := bE2.cell (o := 0) rfl
        have e7a := (HBE.out.keep b62).cell (o := 7) rfl
        have HC := hid hC
        have HBE2 := hid bE2
        clear hO2 b62 hI2 ho2 hg2 hv2 b6w hLw hC bE2
        subst hvf
        go_wp2_with (at_builtin; refine Lib.wpList_append_run (W6.alloc (.cells #[] 3)) rfl (.tmp 70) (.tmp 72) _ _ rfl _ _ rfl rfl _ _ hr2 ?_)
        refine HC.out.mono ?_
        rintro e W7 ⟨⟨x, rfl⟩, L, hLn, hLk, hC7, hxC⟩
        have HBE7 := hid (HBE2.out.ext hxC (fun hc => HTO.out _ (.inl (.inr (.inr (.inr hc)))) rfl))
        clear hxC
        obtain ⟨es', hLaw', htold, hsm⟩ := crash_law HLaw.out (ch := oll) hLn hLk
        have hO := last_open hC7 rfl rfl (fun _ => rfl) hsm
        have HO := hid hO
        have HN := hid (And.intro hLaw' htold)
        clear HC hLn hLk hC7 hLaw' htold hsm hO hr2 e7a hW6 e0 e1 e2 e3 e4 e5 e6 e7 c0 c1 c2 c3 c4 c5 c6 c7 hz0 hz1 hz2 hi0
        obtain ⟨S2, hS2⟩ : ∃ S2, (D.crashed L oll).openS = S2 := ⟨_, rfl⟩
        obtain ⟨D2, hD2⟩ : ∃ D2, (D.crashed L oll).openD = D2 := ⟨_, rfl⟩
        rw [hS2, hD2] at HO HN
        clear hS2 hD2
        go_wp2_with fail
        refine HO.out.mono ?_
        rintro e W7b ⟨q2, rfl, hL7, hx7⟩
        have HO7 := hid (HBE7.out.ext hx7 (fun hc => HTO.out _ (.inl (.inr (.inr (.inr hc)))) rfl))
        have HL7 := hid hL7
        clear hL7 HO hx7
        go_wp2_with fail
        refine (law_num _ _).mono ?_
        rintro e w' ⟨rfl, rfl⟩
        have hlk := law_look HL7.out.st
        have HLK := hid hlk
        clear hlk
        go_wp2_with fail
        refine HLK.out.mono ?_
        rintro e W8 ⟨rfl, b8⟩
        have HL8 := hid (HL7.out.keep b8)
        have HL8B := HL8
        have HB8 := hid b8
        clear HLK b8
        obtain ⟨W9, hW9⟩ : ∃ W9, W8.alloc (.cells #[.string ⟨#[]⟩, .string ⟨#[]⟩, .string ⟨#[]⟩, .string ⟨#[]⟩, .string ⟨#[]⟩, .string ⟨#[]⟩, .string ⟨#[]⟩, .string ⟨#[]⟩, .string ⟨#[]⟩, .string ⟨#[]⟩, .string ⟨#[]⟩, .string ⟨#[]⟩, .string ⟨#[]⟩, .string ⟨#[]⟩, .string ⟨#[]⟩, .string ⟨#[]⟩, .string ⟨#[]⟩, .string ⟨#[]⟩, .bool false, .bool false, .bool false, .bool false, .bool false, .bool false, .bool false, .bool false, .bool false, .bool false, .bool false, .bool false, .bool false, .bool false, .bool false, .bool false, .bool false, .bool false, .bool false, .bool false, .bool false, .int .i64 0, .int .i64 0, .int .i64 0] 39) = W9 := ⟨_, rfl⟩
        have b9 : Below W8.heap.size W8 W9 := by rw [← hW9]; exact (Below.refl _ W8).alloc (Nat.le_refl _) _
        obtain ⟨zq, hzq⟩ : ∃ zq : Array Value, zq = #[.string ⟨#[]⟩, .string ⟨#[]⟩, .string ⟨#[]⟩, .string ⟨#[]⟩, .string ⟨#[]⟩, .string ⟨#[]⟩, .string ⟨#[]⟩, .string ⟨#[]⟩, .string ⟨#[]⟩, .string ⟨#[]⟩, .string ⟨#[]⟩, .string ⟨#[]⟩, .string ⟨#[]⟩, .string ⟨#[]⟩, .string ⟨#[]⟩, .string ⟨#[]⟩, .string ⟨#[]⟩, .string ⟨#[]⟩, .bool false, .bool false, .bool false, .bool false, .bool false, .bool false, .bool false, .bool false, .bool false, .bool false, .bool false, .bool false, .bool false, .bool false, .bool false, .bool false, .bool false, .bool false, .bool false, .bool false, .bool false, .int .i64 0, .int .i64 0, .int .i64 0] := ⟨_, rfl⟩
        have kQ : Blk W9 W8.heap.size zq 39 := by rw [hzq, ← hW9]; exact Blk.new W8 _ _
        have hQz : zq.size = 42 := by rw [hzq]; rfl
        have HL9 := hid (HL8.out.keep b9)
        have HB9 := hid b9
        clear hzq HL8 b9
        have HNE := hid (show TS ≠ W8.heap.size ∧ TM ≠ W8.heap.size ∧ wr.heap.size ≠ W8.heap.size ∧ ¬ q2.all W8.heap.size ∧ W.heap.size ≤ W8.heap.size from by
          have h1 := HL8B.out.sure.lt
          have h2 := HL8B.out.may.lt
          have h3 := HO7.out.lt
          have h4 := HB8.out.size
          have h5 := HL8B.out.below.size
          exact ⟨by omega, by omega, by omega, fun hc => by have := HL8B.out.st.size hc; omega, by omega⟩)
        have HO9 := hid ((HO7.out.keep HB8.out).keep HB9.out)
        by_cases hE : told S2 = told S
        · have HE := hid hE
          clear hE
          have hA := HL9.out
          have k14A := kQ.setRow (told S2)
          have kSA := hA.sure.setRowOther HNE.out.1 (told S2)
          have kMA := hA.may.setRowOther HNE.out.2.1 (told S2)
          have oA := HO9.out.setRowOther HNE.out.2.2.1 (told S2)
          have o0A := oA.cell (o := 0) rfl
          have hz2 := told_size S2
          have ha2 := told_all S2
          have hzS := told_size S
          have hzM := told_size (mayS S oe)
          obtain ⟨b1, hb1, hr1⟩ := dec_told S2 S
          obtain ⟨b2, hb2, hr2⟩ := dec_told S2 (mayS S oe)
          obtain rfl : b1 = true := hb1.2 HE.out
          have k14B := k14A.setRowOther (Ne.symm HNE.out.1) (told S2)
          have kMB := kMA.setRowOther (Ne.symm hA.out.2.2) (told S2)
          have HLX := hid (((hA.row W8.heap.size (told S2) HNE.out.2.2.2.1 ⟨HNE.out.1, HNE.out.2.1⟩ HNE.out.2.2.2.2).setSure (told S2)).setMay (told S2))
          clear hA oA hb1 hb2
          go_wp2_with (first | ((with_reducible (refine idd_load ?_)); (first | (refine wpList_load_row rfl 39 _ rfl W8.heap.size rfl 39 (told S2) (0, 0) _ k14A rfl rfl (by rw [hz2]; exact size_told) ?_) | (refine wpList_load_row rfl 39 _ rfl W8.heap.size rfl 39 (told S2) (0, 0) _ k14B rfl rfl (by rw [hz2]; exact size_told) ?_) )) | ((with_reducible (refine idd_gload ?_)); (first | (refine wpList_wanted9 (by rfl) (fun K hK => wp_load_row 39 _ rfl W8.heap.size rfl 39 (told S2) (0, 0) _ k14A rfl rfl (by rw [hz2]; exact size_told) (hK _ _ ?_))) | (refine wpList_wanted9 (by rfl) (fun K hK => wp_load_row 39 _ rfl TS rfl 39 (told S) (0, 0) _ kSA rfl rfl (by rw [hzS]; exact size_told) (hK _ _ ?_))) | (refine wpList_wanted9 (by rfl) (fun K hK => wp_load_row 39 _ rfl TM rfl 39 (told (mayS S oe)) (0, 0) _ kMA rfl rfl (by rw [hzM]; exact size_told) (hK _ _ ?_))) )) | ((with_reducible (refine idd_store ?_)); (first | (refine wpList_store_row rfl 39 _ _ rfl W8.heap.size (told S2) rfl rfl 39 _ kQ (by rw [hz2]; exact size_told) (by first | rfl | (rw [hz2]; exact hQz)) ha2 ?_) | (refine wpList_store_row rfl 39 _ _ rfl TS (told S2) rfl rfl 39 _ kSA (by rw [hz2]; exact size_told) (by first | rfl | (rw [hz2]; exact hzS)) ha2 ?_) | (refine wpList_store_row rfl 39 _ _ rfl TM (told S2) rfl rfl 39 _ kMB (by rw [hz2]; exact size_told) (by first | rfl | (rw [hz2]; exact hzM)) ha2 ?_) )) | ((with_reducible (refine idd_gneq ?_)); (first | (refine wpList_wanted9 (by rfl) (fun K hK => wp_neq_dec (cs := told S2) (ds := told S) (b := true) rfl rfl rfl guard_told hr1 (hK _ _ ?_))) )))
          go_roundw
          case rel => exact ⟨k + 1, q2, S2, D2, es', none, by have := HK.out; omega, by go_num, rfl, HN.out.1, HLX.out⟩
          case measure => have := HK.out; simp [intOf]; omega
        · have HE := hid (And.intro hE (HN.out.2.resolve_left hE))
          clear hE
          have hA := HL9.out
          have k14A := kQ.setRow (told S2)
          have kSA := hA.sure.setRowOther HNE.out.1 (told S2)
          have kMA := hA.may.setRowOther HNE.out.2.1 (told S2)
          have oA := HO9.out.setRowOther HNE.out.2.2.1 (told S2)
          have o0A := oA.cell (o := 0) rfl
          have hz2 := told_size S2
          have ha2 := told_all S2
          have hzS := told_size S
          have hzM := told_size (mayS S oe)
          obtain ⟨b1, hb1, hr1⟩ := dec_told S2 S
          obtain ⟨b2, hb2, hr2⟩ := dec_told S2 (mayS S oe)
          obtain rfl : b1 = false := Bool.eq_false_iff.2 (fun h => HE.out.1 (hb1.1 h))
          obtain rfl : b2 = true := hb2.2 HE.out.2
          have k14B := k14A.setRowOther (Ne.symm HNE.out.1) (told S2)
          have kMB := kMA.setRowOther (Ne.symm hA.out.2.2) (told S2)
          have HLX := hid (((hA.row W8.heap.size (told S2) HNE.out.2.2.2.1 ⟨HNE.out.1, HNE.out.2.1⟩ HNE.out.2.2.2.2).setSure (told S2)).setMay (told S2))
          clear hA oA hb1 hb2
          go_wp2_with (first | ((with_reducible (refine idd_load ?_)); (first | (refine wpList_load_row rfl 39 _ rfl W8.heap.size rfl 39 (told S2) (0, 0) _ k14A rfl rfl (by rw [hz2]; exact size_told) ?_) | (refine wpList_load_row rfl 39 _ rfl W8.heap.size rfl 39 (told S2) (0, 0) _ k14B rfl rfl (by rw [hz2]; exact size_told) ?_) )) | ((with_reducible (refine idd_gload ?_)); (first | (refine wpList_wanted9 (by rfl) (fun K hK => wp_load_row 39 _ rfl W8.heap.size rfl 39 (told S2) (0, 0) _ k14A rfl rfl (by rw [hz2]; exact size_told) (hK _ _ ?_))) | (refine wpList_wanted9 (by rfl) (fun K hK => wp_load_row 39 _ rfl TS rfl 39 (told S) (0, 0) _ kSA rfl rfl (by rw [hzS]; exact size_told) (hK _ _ ?_))) | (refine wpList_wanted9 (by rfl) (fun K hK => wp_load_row 39 _ rfl TM rfl 39 (told (mayS S oe)) (0, 0) _ kMA rfl rfl (by rw [hzM]; exact size_told) (hK _ _ ?_))) )) | ((with_reducible (refine idd_store ?_)); (first | (refine wpList_store_row rfl 39 _ _ rfl W8.heap.size (told S2) rfl rfl 39 _ kQ (by rw [hz2]; exact size_told) (by first | rfl | (rw [hz2]; exact hQz)) ha2 ?_) | (refine wpList_store_row rfl 39 _ _ rfl TS (told S2) rfl rfl 39 _ kSA (by rw [hz2]; exact size_told) (by first | rfl | (rw [hz2]; exact hzS)) ha2 ?_) | (refine wpList_store_row rfl 39 _ _ rfl TM (told S2) rfl rfl 39 _ kMB (by rw [hz2]; exact size_told) (by first | rfl | (rw [hz2]; exact hzM)) ha2 ?_) )) | ((with_reducible (refine idd_gneq ?_)); (first | (refine wpList_wanted9 (by rfl) (fun K hK => wp_neq_dec (cs := told S2) (ds := told S) (b := false) rfl rfl rfl guard_told hr1 (hK _ _ ?_))) | (refine wpList_wanted9 (by rfl) (fun K hK => wp_neq_dec (cs := told S2) (ds := told (mayS S oe)) (b := true) rfl rfl rfl guard_told hr2 (hK _ _ ?_))) )))
          go_roundw
          case rel => exact ⟨k + 1, q2, S2, D2, es', none, by have := HK.out; omega, by go_num, rfl, HN.out.1, HLX.out⟩
          case measure => have := HK.out; simp [intOf]; omega

      have hb5 : (od == 5) = false := beq_eq_false_iff_ne.2 h5
      clear h5
      have hC := last_call H6.out HLaw.out.quiet ⟨od, ol, op, on, orp, ob, os, oll⟩ HB0.out.2.2 (.slice bg ob.length bc) (.slice lg oll.length lc) (HB0.out.1.keep H6.out.below)
      unfold Opr.val at hC
      simp only at hC
      have HC := hid hC
      clear hC
      go_wp2_with fail
      refine HC.out.mono ?_
      rintro e W7 ⟨rfl, q2, hqs2, hL7, hx7⟩
      have HO7 := hid (HBE.out.ext hx7 (fun hc => HTO.out _ (.inl hc) rfl))
      obtain ⟨es', oe', hLaw', hcs⟩ := callP_law HLaw.out ⟨od, ol, op, on, orp, ob, os, oll⟩
      have hlow := HLaw.out.low
      have hnn := get_nonneg H6.out.st
      have hdone : ∀ WX, Below W.heap.size W WX → (od = 0 → (S.get (mod3 ol 3)).2.1 ≤ mod3 op 6) → Calls Try.prog 11 #[.agg (told S), .agg #[.int .i64 od, .int .i64 ol, .int .i64 op, .int .i64 on, .bool orp, .slice bg ob.length bc, .int .i64 os, .slice lg oll.length lc]] WX fun e w' => e = .returned (.agg (told (doneS S ⟨od, ol, op, on, orp, ob, os, oll⟩))) ∧ Below WX.heap.size WX w' := fun WX hbX hpo => law_done S ⟨od, ol, op, on, orp, ob, os, oll⟩ HB0.out.2.2 (.slice bg ob.length bc) (.slice lg oll.length lc) (HB0.out.1.keep hbX) hnn hlow hpo
      have HDONE := hid hdone
      clear hdone hlow hnn HC hx7 hW6 e0 e1 e2 e3 e4 e5 e6 e7 c0 c1 c2 c3 c4 c5 c6 c7
      generalize doneS S ⟨od, ol, op, on, orp, ob, os, oll⟩ = Sd at *
      generalize (callP S D ⟨od, ol, op, on, orp, ob, os, oll⟩).1 = G at *
      generalize (callP S D ⟨od, ol, op, on, orp, ob, os, oll⟩).2.1 = S2 at *
      generalize (callP S D ⟨od, ol, op, on, orp, ob, os, oll⟩).2.2 = D2 at *
      have HL7 := hid hL7
      have HN := hid hLaw'
      have HQ := hid hqs2
      clear hL7 hLaw' hqs2
      rcases hcs with ⟨rfl, hoe, hoe', htd, hpo⟩ | ⟨rfl, hts, hB⟩ | ⟨hg0, hg8, hts, rfl, htm⟩
      · as_aux_lemma =>
        subst hoe'
        have o0 := HO7.out.cell (o := 0) rfl
        have o1 := HO7.out.cell (o := 1) rfl
        have o2 := HO7.out.cell (o := 2) rfl
        have o3 := HO7.out.cell (o := 3) rfl
        have o4 := HO7.out.cell (o := 4) rfl
        have o5 := HO7.out.cell (o := 5) rfl
        have o6 := HO7.out.cell (o := 6) rfl
        have o7 := HO7.out.cell (o := 7) rfl
        have kS7 := HL7.out.sure
        have hzS := told_size S
        have hD := HDONE.out W7 HL7.out.below hpo
        rw [← htd] at hD
        have HD := hid hD
        clear hD htd
        go_wp2_with (first | ((with_reducible (refine idd_load ?_)); (first | (refine wpList_load_row rfl 39 _ rfl TS rfl 39 (told S) (0, 0) _ kS7 rfl rfl (by rw [hzS]; exact size_told) ?_) )))
        refine HD.out.mono ?_
        rintro e W7d ⟨rfl, bd⟩
        have HLd := hid (HL7.out.keep bd)
        have HOd := hid (HO7.out.keep bd)
        clear HD bd kS7 o0 o1 o2 o3 o4 o5 o6 o7
        have kSd := HLd.out.sure
        have kSd2 := kSd.setRow (told S2)
        have kMd := HLd.out.may.setRowOther (Ne.symm HLd.out.out.2.2) (told S2)
        have hzM := told_size (mayS S oe)
        have hz2 := told_size S2
        have ha2 := told_all S2
        have HL7x := hid ((HLd.out.setSure (told S2)).setMay (told S2))
        have HO7x := hid ((HOd.out.setRowOther HTS.out.1 (told S2)).setRowOther HTS.out.2 (told S2))
        go_wp2_with (first | ((with_reducible (refine idd_load ?_)); (first | (refine wpList_load_row rfl 39 _ rfl TS rfl 39 (told S2) (0, 0) _ kSd2 rfl rfl (by rw [hz2]; exact size_told) ?_) )) | ((with_reducible (refine idd_store ?_)); (first | (refine wpList_store_row rfl 39 _ _ rfl TS (told S2) rfl rfl 39 _ kSd (by rw [hz2]; exact size_told) (by first | rfl | (rw [hz2]; exact hzS)) ha2 ?_) | (refine wpList_store_row rfl 39 _ _ rfl TM (told S2) rfl rfl 39 _ kMd (by rw [hz2]; exact size_told) (by first | rfl | (rw [hz2]; exact hzM)) ha2 ?_) )))
        clear kSd kSd2 kMd hzM hz2 ha2 hzS
        generalize (W7d.setRow TS (told S2)).setRow TM (told S2) = W7x at *
        have HL7L := HL7x
        have HO7L := HO7x
        have hlk := law_look HL7L.out.st
        rw [HQ.out] at hlk
        have HLK := hid hlk
        clear hlk
        refine HLK.out.mono ?_
        rintro e W8 ⟨rfl, b8⟩
        have HL8 := hid (HL7L.out.keep b8)
        have HL8B := HL8
        have HB8 := hid b8
        clear HLK b8
        obtain ⟨W9, hW9⟩ : ∃ W9, W8.alloc (.cells #[.string ⟨#[]⟩, .string ⟨#[]⟩, .string ⟨#[]⟩, .string ⟨#[]⟩, .string ⟨#[]⟩, .string ⟨#[]⟩, .string ⟨#[]⟩, .string ⟨#[]⟩, .string ⟨#[]⟩, .string ⟨#[]⟩, .string ⟨#[]⟩, .string ⟨#[]⟩, .string ⟨#[]⟩, .string ⟨#[]⟩, .string ⟨#[]⟩, .string ⟨#[]⟩, .string ⟨#[]⟩, .string ⟨#[]⟩, .bool false, .bool false, .bool false, .bool false, .bool false, .bool false, .bool false, .bool false, .bool false, .bool false, .bool false, .bool false, .bool false, .bool false, .bool false, .bool false, .bool false, .bool false, .bool false, .bool false, .bool false, .int .i64 0, .int .i64 0, .int .i64 0] 39) = W9 := ⟨_, rfl⟩
        have b9 : Below W8.heap.size W8 W9 := by rw [← hW9]; exact (Below.refl _ W8).alloc (Nat.le_refl _) _
        obtain ⟨zq, hzq⟩ : ∃ zq : Array Value, zq = #[.string ⟨#[]⟩, .string ⟨#[]⟩, .string ⟨#[]⟩, .string ⟨#[]⟩, .string ⟨#[]⟩, .string ⟨#[]⟩, .string ⟨#[]⟩, .string ⟨#[]⟩, .string ⟨#[]⟩, .string ⟨#[]⟩, .string ⟨#[]⟩, .string ⟨#[]⟩, .string ⟨#[]⟩, .string ⟨#[]⟩, .string ⟨#[]⟩, .string ⟨#[]⟩, .string ⟨#[]⟩, .string ⟨#[]⟩, .bool false, .bool false, .bool false, .bool false, .bool false, .bool false, .bool false, .bool false, .bool false, .bool false, .bool false, .bool false, .bool false, .bool false, .bool false, .bool false, .bool false, .bool false, .bool false, .bool false, .bool false, .int .i64 0, .int .i64 0, .int .i64 0] := ⟨_, rfl⟩
        have kQ : Blk W9 W8.heap.size zq 39 := by rw [hzq, ← hW9]; exact Blk.new W8 _ _
        have hQz : zq.size = 42 := by rw [hzq]; rfl
        have HL9 := hid (HL8.out.keep b9)
        have HB9 := hid b9
        clear hzq HL8 b9
        have HNE := hid (show TS ≠ W8.heap.size ∧ TM ≠ W8.heap.size ∧ wr.heap.size ≠ W8.heap.size ∧ ¬ q2.all W8.heap.size ∧ W.heap.size ≤ W8.heap.size from by
          have h1 := HL8B.out.sure.lt
          have h2 := HL8B.out.may.lt
          have h3 := HO7L.out.lt
          have h4 := HB8.out.size
          have h5 := HL8B.out.below.size
          exact ⟨by omega, by omega, by omega, fun hc => by have := HL8B.out.st.size hc; omega, by omega⟩)
        have HO9 := hid ((HO7L.out.keep HB8.out).keep HB9.out)
        have HE := hid (show told S2 = told S2 from rfl)
        have hA := HL9.out
        have k14A := kQ.setRow (told S2)
        have kSA := hA.sure.setRowOther HNE.out.1 (told S2)
        have kMA := hA.may.setRowOther HNE.out.2.1 (told S2)
        have oA := HO9.out.setRowOther HNE.out.2.2.1 (told S2)
        have o0A := oA.cell (o := 0) rfl
        have hz2 := told_size S2
        have ha2 := told_all S2
        have hzS := told_size S2
        have hzM := told_size S2
        obtain ⟨b1, hb1, hr1⟩ := dec_told S2 S2
        obtain ⟨b2, hb2, hr2⟩ := dec_told S2 S2
        obtain rfl : b1 = true := hb1.2 HE.out
        have HLX := hid (hA.row W8.heap.size (told S2) HNE.out.2.2.2.1 ⟨HNE.out.1, HNE.out.2.1⟩ HNE.out.2.2.2.2)
        clear hA oA hb1 hb2
        go_wp2_with (first | ((with_reducible (refine idd_gload ?_)); (first | (refine wpList_wanted9 (by rfl) (fun K hK => wp_load_row 39 _ rfl W8.heap.size rfl 39 (told S2) (0, 0) _ k14A rfl rfl (by rw [hz2]; exact size_told) (hK _ _ ?_))) | (refine wpList_wanted9 (by rfl) (fun K hK => wp_load_row 39 _ rfl TS rfl 39 (told S2) (0, 0) _ kSA rfl rfl (by rw [hzS]; exact size_told) (hK _ _ ?_))) | (refine wpList_wanted9 (by rfl) (fun K hK => wp_load_row 39 _ rfl TM rfl 39 (told S2) (0, 0) _ kMA rfl rfl (by rw [hzM]; exact size_told) (hK _ _ ?_))) )) | ((with_reducible (refine idd_store ?_)); (first | (refine wpList_store_row rfl 39 _ _ rfl W8.heap.size (told S2) rfl rfl 39 _ kQ (by rw [hz2]; exact size_told) (by first | rfl | (rw [hz2]; exact hQz)) ha2 ?_) )) | ((with_reducible (refine idd_gneq ?_)); (first | (refine wpList_wanted9 (by rfl) (fun K hK => wp_neq_dec (cs := told S2) (ds := told S2) (b := true) rfl rfl rfl guard_told hr1 (hK _ _ ?_))) )))
        go_roundw
        case rel => exact ⟨k + 1, q2, S2, D2, es', none, by have := HK.out; omega, by go_num, by rw [HQ.out], HN.out, HLX.out⟩
        case measure => have := HK.out; simp [intOf]; omega
      · rcases hB with ⟨hoe, hoe', htm, hpo⟩ | ⟨hoe, hoe', htm⟩
        · as_aux_lemma =>
          subst hoe
          have o0 := HO7.out.cell (o := 0) rfl
          have o1 := HO7.out.cell (o := 1) rfl
          have o2 := HO7.out.cell (o := 2) rfl
          have o3 := HO7.out.cell (o := 3) rfl
          have o4 := HO7.out.cell (o := 4) rfl
          have o5 := HO7.out.cell (o := 5) rfl
          have o6 := HO7.out.cell (o := 6) rfl
          have o7 := HO7.out.cell (o := 7) rfl
          have hL9 : LastAt W W7 pd q2 S2 D2 TS TM (told S) (told S) := HL7.out
          have HL9 := hid hL9
          clear hL9
          have kS7 := HL9.out.sure
          have kM7 := HL9.out.may
          have hzS := told_size S
          obtain ⟨b1, hb1, hr1⟩ := dec_told S S
          obtain rfl : b1 = true := hb1.2 rfl
          have hD := HDONE.out W7 HL9.out.below hpo
          rw [← htm] at hD
          have HD := hid hD
          clear hD htm hb1
          go_wp2_with (first | ((with_reducible (refine idd_load ?_)); (first | (refine wpList_load_row rfl 39 _ rfl TS rfl 39 (told S) (0, 0) _ kS7 rfl rfl (by rw [hzS]; exact size_told) ?_) )) | ((with_reducible (refine idd_gload ?_)); (first | (refine wpList_wanted9 (by rfl) (fun K hK => wp_load_row 39 _ rfl TM rfl 39 (told S) (0, 0) _ kM7 rfl rfl (by rw [hzS]; exact size_told) (hK _ _ ?_))) | (refine wpList_wanted9 (by rfl) (fun K hK => wp_load_row 39 _ rfl TS rfl 39 (told S) (0, 0) _ kS7 rfl rfl (by rw [hzS]; exact size_told) (hK _ _ ?_))) )) | ((with_reducible (refine idd_geql ?_)); (first | (refine wpList_wanted9 (by rfl) (fun K hK => wp_eql_dec (cs := told S) (ds := told S) (b := true) rfl rfl rfl guard_told hr1 (hK _ _ ?_))) )))
          refine HD.out.mono ?_
          rintro e W7d ⟨rfl, bd⟩
          have HLd := hid (HL9.out.keep bd)
          clear HD bd kS7 kM7 o0 o1 o2 o3 o4 o5 o6 o7 hr1
          have kMd := HLd.out.may
          have hz2 := told_size (mayS S2 oe')
          have ha2 := told_all (mayS S2 oe')
          have HLX := hid (HLd.out.setMay (told (mayS S2 oe')))
          go_wp2_with (first | ((with_reducible (refine idd_store ?_)); (first | (refine wpList_store_row rfl 39 _ _ rfl TM (told (mayS S2 oe')) rfl rfl 39 _ kMd (by rw [hz2]; exact size_told) (by first | rfl | (rw [hz2]; exact hzS)) ha2 ?_) )))
          go_roundw
          case rel => exact ⟨k + 1, q2, S2, D2, es', oe', by have := HK.out; omega, by go_num, by rw [HQ.out], HN.out, by rw [hts]; exact HLX.out⟩
          case measure => have := HK.out; simp [intOf]; omega
        · as_aux_lemma =>
          have kS7 := HL7.out.sure
          have kM7 := HL7.out.may
          have hzS := told_size S
          have hzM := told_size (mayS S oe)
          obtain ⟨b1, hb1, hr1⟩ := dec_told (mayS S oe) S
          obtain rfl : b1 = false := Bool.eq_false_iff.2 (fun h => HLaw.out.parts hoe (hb1.1 h))
          clear hb1 hoe
          go_wp2_with (first | ((with_reducible (refine idd_gload ?_)); (first | (refine wpList_wanted9 (by rfl) (fun K hK => wp_load_row 39 _ rfl TM rfl 39 (told (mayS S oe)) (0, 0) _ kM7 rfl rfl (by rw [hzM]; exact size_told) (hK _ _ ?_))) | (refine wpList_wanted9 (by rfl) (fun K hK => wp_load_row 39 _ rfl TS rfl 39 (told S) (0, 0) _ kS7 rfl rfl (by rw [hzS]; exact size_told) (hK _ _ ?_))) )) | ((with_reducible (refine idd_geql ?_)); (first | (refine wpList_wanted9 (by rfl) (fun K hK => wp_eql_dec (cs := told (mayS S oe)) (ds := told S) (b := false) rfl rfl rfl guard_told hr1 (hK _ _ ?_))) )))
          go_roundw
          case rel => exact ⟨k + 1, q2, S2, D2, es', oe', by have := HK.out; omega, by go_num, by rw [HQ.out], HN.out, by rw [hts, htm]; exact HL7.out⟩
          case measure => have := HK.out; simp [intOf]; omega
      · as_aux_lemma =>
        have hg1 : (G == 0) = false := beq_eq_false_iff_ne.2 hg0
        have hg2 : (G == 8) = false := beq_eq_false_iff_ne.2 hg8
        have HL7L := hid (show LastAt W W7 pd q2 S2 D2 TS TM (told S2) (told (mayS S2 oe')) by rw [hts, htm]; exact HL7.out)
        have HO7L := HO7
        clear hg0 hg8 hts htm
        have hlk := law_look HL7L.out.st
        rw [HQ.out] at hlk
        have HLK := hid hlk
        clear hlk
        go_wp2_with fail
        refine HLK.out.mono ?_
        rintro e W8 ⟨rfl, b8⟩
        have HL8 := hid (HL7L.out.keep b8)
        have HL8B := HL8
        have HB8 := hid b8
        clear HLK b8
        obtain ⟨W9, hW9⟩ : ∃ W9, W8.alloc (.cells #[.string ⟨#[]⟩, .string ⟨#[]⟩, .string ⟨#[]⟩, .string ⟨#[]⟩, .string ⟨#[]⟩, .string ⟨#[]⟩, .string ⟨#[]⟩, .string ⟨#[]⟩, .string ⟨#[]⟩, .string ⟨#[]⟩, .string ⟨#[]⟩, .string ⟨#[]⟩, .string ⟨#[]⟩, .string ⟨#[]⟩, .string ⟨#[]⟩, .string ⟨#[]⟩, .string ⟨#[]⟩, .string ⟨#[]⟩, .bool false, .bool false, .bool false, .bool false, .bool false, .bool false, .bool false, .bool false, .bool false, .bool false, .bool false, .bool false, .bool false, .bool false, .bool false, .bool false, .bool false, .bool false, .bool false, .bool false, .bool false, .int .i64 0, .int .i64 0, .int .i64 0] 39) = W9 := ⟨_, rfl⟩
        have b9 : Below W8.heap.size W8 W9 := by rw [← hW9]; exact (Below.refl _ W8).alloc (Nat.le_refl _) _
        obtain ⟨zq, hzq⟩ : ∃ zq : Array Value, zq = #[.string ⟨#[]⟩, .string ⟨#[]⟩, .string ⟨#[]⟩, .string ⟨#[]⟩, .string ⟨#[]⟩, .string ⟨#[]⟩, .string ⟨#[]⟩, .string ⟨#[]⟩, .string ⟨#[]⟩, .string ⟨#[]⟩, .string ⟨#[]⟩, .string ⟨#[]⟩, .string ⟨#[]⟩, .string ⟨#[]⟩, .string ⟨#[]⟩, .string ⟨#[]⟩, .string ⟨#[]⟩, .string ⟨#[]⟩, .bool false, .bool false, .bool false, .bool false, .bool false, .bool false, .bool false, .bool false, .bool false, .bool false, .bool false, .bool false, .bool false, .bool false, .bool false, .bool false, .bool false, .bool false, .bool false, .bool false, .bool false, .int .i64 0, .int .i64 0, .int .i64 0] := ⟨_, rfl⟩
        have kQ : Blk W9 W8.heap.size zq 39 := by rw [hzq, ← hW9]; exact Blk.new W8 _ _
        have hQz : zq.size = 42 := by rw [hzq]; rfl
        have HL9 := hid (HL8.out.keep b9)
        have HB9 := hid b9
        clear hzq HL8 b9
        have HNE := hid (show TS ≠ W8.heap.size ∧ TM ≠ W8.heap.size ∧ wr.heap.size ≠ W8.heap.size ∧ ¬ q2.all W8.heap.size ∧ W.heap.size ≤ W8.heap.size from by
          have h1 := HL8B.out.sure.lt
          have h2 := HL8B.out.may.lt
          have h3 := HO7L.out.lt
          have h4 := HB8.out.size
          have h5 := HL8B.out.below.size
          exact ⟨by omega, by omega, by omega, fun hc => by have := HL8B.out.st.size hc; omega, by omega⟩)
        have HO9 := hid ((HO7L.out.keep HB8.out).keep HB9.out)
        have HE := hid (show told S2 = told S2 from rfl)
        have hA := HL9.out
        have k14A := kQ.setRow (told S2)
        have kSA := hA.sure.setRowOther HNE.out.1 (told S2)
        have kMA := hA.may.setRowOther HNE.out.2.1 (told S2)
        have oA := HO9.out.setRowOther HNE.out.2.2.1 (told S2)
        have o0A := oA.cell (o := 0) rfl
        have hz2 := told_size S2
        have ha2 := told_all S2
        have hzS := told_size S2
        have hzM := told_size (mayS S2 oe')
        obtain ⟨b1, hb1, hr1⟩ := dec_told S2 S2
        obtain ⟨b2, hb2, hr2⟩ := dec_told S2 (mayS S2 oe')
        obtain rfl : b1 = true := hb1.2 HE.out
        have HLX := hid (hA.row W8.heap.size (told S2) HNE.out.2.2.2.1 ⟨HNE.out.1, HNE.out.2.1⟩ HNE.out.2.2.2.2)
        clear hA oA hb1 hb2
        go_wp2_with (first | ((with_reducible (refine idd_gload ?_)); (first | (refine wpList_wanted9 (by rfl) (fun K hK => wp_load_row 39 _ rfl W8.heap.size rfl 39 (told S2) (0, 0) _ k14A rfl rfl (by rw [hz2]; exact size_told) (hK _ _ ?_))) | (refine wpList_wanted9 (by rfl) (fun K hK => wp_load_row 39 _ rfl TS rfl 39 (told S2) (0, 0) _ kSA rfl rfl (by rw [hzS]; exact size_told) (hK _ _ ?_))) | (refine wpList_wanted9 (by rfl) (fun K hK => wp_load_row 39 _ rfl TM rfl 39 (told (mayS S2 oe')) (0, 0) _ kMA rfl rfl (by rw [hzM]; exact size_told) (hK _ _ ?_))) )) | ((with_reducible (refine idd_store ?_)); (first | (refine wpList_store_row rfl 39 _ _ rfl W8.heap.size (told S2) rfl rfl 39 _ kQ (by rw [hz2]; exact size_told) (by first | rfl | (rw [hz2]; exact hQz)) ha2 ?_) )) | ((with_reducible (refine idd_gneq ?_)); (first | (refine wpList_wanted9 (by rfl) (fun K hK => wp_neq_dec (cs := told S2) (ds := told S2) (b := true) rfl rfl rfl guard_told hr1 (hK _ _ ?_))) )))
        go_roundw
        case rel => exact ⟨k + 1, q2, S2, D2, es', oe', by have := HK.out; omega, by go_num, by rw [HQ.out], HN.out, HLX.out⟩
        case measure => have := HK.out; simp [intOf]; omega
    · have hd1 : decide ((k : Int) < (l.length : Int)) = false := decide_eq_false (by omega)
      go_wp2_with fail
      go_ret
      exact ⟨rfl, hL.below⟩
end Go.Proofs.Ytpkaepmmkojdaaa
