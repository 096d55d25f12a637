import Derived.Test.YtpkaepmmkojdaaaMRangeG
import Derived.Test.YtpkaepmmkojdaaaMSrt
import Derived.Test.YtpkaepmmkojdaaaMStore
import Derived.Sort.CutIn
import Derived.Sort.OwnSortedInts
/-! maps.Keys, slices.Collect, slices.Sorted at int keys. -/
namespace Go.Proofs.Ytpkaepmmkojdaaa
open Go.RowKit
attribute [local go_sem] Oper.semAt_some

def seenLen (W : World) (r : Nat) : Nat := match W.heap[r]? with | some (.mapIter _ _ seen _) => seen.size | _ => 0
theorem IterAt.len {w : World} {r b since : Nat} {seen : Array Nat} {last : Nat} (h : IterAt w r b since seen last) : seenLen w r = seen.size := by
  unfold seenLen
  rw [show w.heap[r]? = _ from h]
theorem vis_perm {es vs : List (Ent Int)} (hb : (es.map (·.born)).Nodup) (hs : ∀ e ∈ vs, e ∈ es) (hn : (vs.map (·.born)).Nodup) (ha : ∀ e ∈ es, e.born ∈ (vs.map (·.born)).toArray) : vs.Perm es := by
  have h1 : vs.Nodup := List.Pairwise.of_map (·.born) (fun _ _ h e => h (congrArg _ e)) hn
  have h2 : es.Nodup := List.Pairwise.of_map (·.born) (fun _ _ h e => h (congrArg _ e)) hb
  refine (List.perm_ext_iff_of_nodup h1 h2).2 (fun e => ⟨hs e, fun he => ?_⟩)
  have := ha e he
  rw [List.mem_toArray, List.mem_map] at this
  obtain ⟨v, hv, hve⟩ := this
  have := nodup_map_inj hb (hs v hv) he hve
  rw [← this]
  exact hv
theorem len_sub {α : Type} [DecidableEq α] : ∀ {xs ys : List α}, xs.Nodup → (∀ e ∈ xs, e ∈ ys) → xs.length ≤ ys.length
  | [], _, _, _ => Nat.zero_le _
  | a :: xs, ys, hn, hs => by
    obtain ⟨h1, h2⟩ := List.nodup_cons.1 hn
    have ha := hs a (by simp)
    have := len_sub (xs := xs) (ys := ys.erase a) h2 (fun e he => (List.mem_erase_of_ne (fun (e2 : e = a) => h1 (by rw [← e2]; exact he))).2 (hs e (by simp [he])))
    rw [List.length_erase_of_mem ha] at this
    have hp := List.length_pos_of_mem ha
    simp only [List.length_cons]
    omega
theorem vis_len {es vs : List (Ent Int)} (hs : ∀ e ∈ vs, e ∈ es) (hn : (vs.map (·.born)).Nodup) : vs.length ≤ es.length := by
  have := len_sub hn (ys := es.map (·.born)) (fun b hb => by
    obtain ⟨v, hv, rfl⟩ := List.mem_map.1 hb
    exact List.mem_map.2 ⟨v, hs v hv, rfl⟩)
  simpa using this
/-- What is handed, a key behind the others. -/
def KeyY (es : List (Ent Int)) (ks ks' : List Int) (_ : World) (args : Array Value) : Prop := ∃ k, ks' = ks ++ [k] ∧ args = #[.int .i64 k] ∧ ks'.length ≤ es.length

set_option maxRecDepth 100000 in
set_option maxHeartbeats 1600000 in
theorem keys_iterD (g mt c M : Nat) (w : World) (fp : Nat → Prop) (es : List (Ent Int)) (hg : Blk w g #[.map (some mt)] 53) (hm : MapAt w mt encI es c) (hM : M = w.heap.size + 1) (f1 : ¬ fp g) (f2 : ¬ fp mt) (f3 : ¬ fp w.heap.size) :
    IterG Try.prog 49 #[.pointer (some ⟨g, 0, none⟩)] (List Int) [] (fun ks => ks.Perm (es.map (·.k))) (KeyY es) fp M w := by
  intro n l0 J Jx hJ hJx hR h0
  have c0 := hg.cell (o := 0) rfl
  obtain ⟨hrg, hit⟩ := run_range_raw (P := Try.prog) hm Try.underlying53
  obtain ⟨W1, hW1⟩ : ∃ W1, w.alloc (.mapIter (some mt) c #[] c) = W1 := ⟨_, rfl⟩
  rw [hW1] at hrg hit
  have b1 : Below w.heap.size w W1 := by rw [← hW1]; exact (Below.refl _ w).alloc (Nat.le_refl _) _
  have hsz : W1.heap.size = w.heap.size + 1 := by rw [← hW1]; simp
  have hJ1 := hJ [] w W1 h0 ⟨b1.os, b1.tape, b1.output, b1.size, fun k hk _ => b1.block k hk⟩
  have hm1 := hm.keep b1
  have hgl := hg.lt
  have hml := hm.lt
  have HH := hid (And.intro hJ1 (And.intro hm1 hit))
  clear hm hg hit h0 b1 hJ1 hm1
  refine callsIn_of_wp Try.func49 rfl trivial ?_ rfl
  simp only [Try.ntmps49, List.size_toArray, List.length_cons, List.length_nil, Nat.reduceAdd, Nat.reduceSub, Array.replicate_succ, Array.replicate_zero, List.push_toArray, List.append_toArray, List.nil_append, List.cons_append]
  gi_wp2
  clear hW1 hrg c0
  gi_loopw [3] (fun _ wr => ∃ vs : List (Ent Int), (∀ e ∈ vs, e ∈ es) ∧ (vs.map (·.born)).Nodup ∧ J (vs.map (·.k)) wr ∧ MapAt wr mt encI es c ∧ IterAt wr w.heap.size mt c (vs.map (·.born)).toArray c ∧ w.heap.size + 1 ≤ wr.heap.size) (fun _ wr => es.length - seenLen wr w.heap.size)
  case atStart => exact ⟨[], fun e h => by simp at h, List.nodup_nil, HH.out.1, HH.out.2.1, HH.out.2.2, by omega⟩
  case round =>
    obtain ⟨vs, hvs, hvn, hJk, hmw, hitw, hsw⟩ := hrel
    have hlen := hitw.len
    rcases run_next_raw (P := Try.prog) hmw hitw hmw.born (by cases es with | nil => exact .inr (.inl rfl) | cons a l => exact .inr (.inr ⟨a, by simp, hmw.born a (by simp)⟩)) 0 with ⟨hall, hr⟩ | ⟨e, he, hn, w1, hr, hit1, hx1⟩
    · have hP := hid (vis_perm hmw.borns hvs hvn hall)
      have HJ := hid hJk
      clear hvs hvn hJk hmw hitw hall hlen hJ hJx hR
      gi_wp2
      go_end0
      exact ⟨⟨_, rfl⟩, .inl ⟨_, hP.out.map _, HJ.out⟩⟩
    · have hvs2 : ∀ x ∈ vs ++ [e], x ∈ es := fun x hx => by
        rcases List.mem_append.1 hx with h | h
        · exact hvs x h
        · simp at h; rw [h]; exact he
      have hvn2 : ((vs ++ [e]).map (·.born)).Nodup := by
        rw [List.map_append, List.nodup_append]
        refine ⟨hvn, by simp, fun a ha b hb => ?_⟩
        simp at hb
        rw [hb]
        rintro rfl
        exact hn (by rw [List.mem_toArray]; exact ha)
      have hl2 := vis_len hvs2 hvn2
      have hm1 := hmw.ext hx1 (by omega)
      have hent := run_entry_raw (P := Try.prog) hm1 he hit1
      have hit2 : IterAt w1 w.heap.size mt c ((vs ++ [e]).map (·.born)).toArray c := by
        have e9 : ((vs ++ [e]).map (·.born)).toArray = (vs.map (·.born)).toArray.push e.born := by simp
        rw [e9]
        exact hit1
      have hRound := hR (n - 1) (vs.map (·.k)) ((vs ++ [e]).map (·.k)) w1 #[.int .i64 e.k] (hJ _ wr w1 hJk (hx1.mono (fun b _ h => by have h9 : b = w.heap.size := h; omega))) ⟨e.k, by simp, rfl, by simp; simp at hl2; omega⟩ (Nat.le_trans (by omega) hx1.size)
      have HV := hid (And.intro hvs2 (And.intro hvn2 (And.intro hm1 (And.intro hit2 hl2))))
      clear hvs hvn hJk hmw hitw hJ hJx hR hvs2 hvn2 hm1 hit2 hl2 he hn hit1
      have hent' : (Instr.entry (.pointer (some ⟨w.heap.size, 0, none⟩))).run Try.prog w1 = .ok (.tuple #[.int .i64 e.k, e.v]) w1 := hent
      have hr' : (Instr.next (.pointer (some ⟨w.heap.size, 0, none⟩)) false 0).run Try.prog wr = .ok (.tuple #[.bool true, .int .i64 e.k, e.v]) w1 := hr
      clear hent hr
      obtain ⟨fn, tmps, assign, body, hy, hRR⟩ := hRound
      gi_wp2
      refine ⟨fun h => by simp [Fence.wide] at h, hRR.mono ?_⟩
      rintro e9 W3 (⟨rfl, hJ3, hx3⟩ | ⟨rfl, ⟨k9, hJx3⟩, _⟩)
      · obtain ⟨hvs2, hvn2, hm1, hit2, hl2⟩ := HV.out
        have hm3 := hm1.ext hx3 f2
        have hit3 : IterAt W3 w.heap.size mt c ((vs ++ [e]).map (·.born)).toArray c := by
          have h9 : w1.heap[w.heap.size]? = _ := hit2
          exact (hx3.block _ (Array.getElem?_eq_some_iff.1 h9).1 f3).trans h9
        have hs3 : w.heap.size + 1 ≤ W3.heap.size := Nat.le_trans hsw (Nat.le_trans hx1.size hx3.size)
        have hl3 := hit3.len
        have HZ := hid (And.intro hvs2 (And.intro hvn2 (And.intro hJ3 (And.intro hm3 (And.intro hit3 (And.intro hs3 (And.intro hl3 (And.intro hl2 hlen))))))))
        clear hvs2 hvn2 hm1 hit2 hm3 hit3 hJ3 hl3 hl2 hlen hy hr' hent'
        gi_wp2
        go_roundw
        case rel => exact ⟨vs ++ [e], HZ.out.1, HZ.out.2.1, HZ.out.2.2.1, HZ.out.2.2.2.1, HZ.out.2.2.2.2.1, HZ.out.2.2.2.2.2.1⟩
        case measure =>
          obtain ⟨-, -, -, -, -, -, g1, g2, g3⟩ := HZ.out
          rw [g1, g3]
          simp at g2 ⊢
          omega
      · gi_wp2
        refine bodyPost_ret (results_none rfl _ _ _) rfl ?_
        exact ⟨⟨_, rfl⟩, .inr ⟨k9, hJx3⟩⟩

theorem wpListIn_append_runK {F : Fence} {n : Nat} {P : Program} (w : World) {ops : Array Oper} {rest : List Oper} {o : Oper} {a : Act} {Q : Exit → Act → World → Prop} (hgd : o.guard = none) (s x : Operand) (t tn : TypeId)
    (ho : o.op = .call { callee := .builtin .append, args := #[s, x], argTypes := #[t, tn] }) (vs vx : Value) (hs : a.eval s = vs) (hx : a.eval x = vx)
    (v' : Value) (w' : World) (hr : (Builtin.append_ #[t, tn] o.type #[vs, vx]).run P w = .ok v' w') (hK : wpListIn F n P ops Q rest (a.put o.dst v') w') : wpListIn F n P ops Q (o :: rest) a w := by
  refine wpListIn_plain hgd fun K hK' => ?_
  unfold Oper.wpIn
  refine ⟨?_, ?_⟩
  · simp [Oper.about, ho, resolve, Target.leads, Sem.run_pure]
  · rw [Oper.semAt_plain F _ _ (by rw [ho]; intro c hc'; cases hc')]
    simp [execOp, ho, resolve, invoke, builtin, hs, hx, hr, Result.andThen]
    exact hK' _ _ hK

set_option maxRecDepth 100000 in
set_option maxHeartbeats 1600000 in
theorem append_keysD (g mt c : Nat) (W : World) (es : List (Ent Int)) (hes : es.length ≤ 1000000) (hg : Blk W g #[.map (some mt)] 53) (hm : MapAt W mt encI es c) :
    Calls Try.prog 56 #[.slice none 0 0, .func (.func 49) #[] #[.pointer (some ⟨g, 0, none⟩)]] W fun e w' => ∃ v ks, e = .returned v ∧ ks.Perm (es.map (·.k)) ∧ OwnI w' W.heap.size 3 v ks ∧ Below W.heap.size W w' := by
  obtain ⟨i0, hi, hz0⟩ := Option.map_eq_some_iff.1 info_int
  simp only [Prod.mk.injEq] at hz0
  obtain ⟨hz1, hz2, hz3⟩ := hz0
  have HI := hid (And.intro hi (And.intro hz1 (And.intro hz2 hz3)))
  clear hi hz1 hz2 hz3
  obtain ⟨W1, hW1⟩ : ∃ W1, W.alloc (.cells #[.slice none 0 0] 41) = W1 := ⟨_, rfl⟩
  have b1 : Below W.heap.size W W1 := by rw [← hW1]; exact (Below.refl _ W).alloc (Nat.le_refl _) _
  have k1 : Blk W1 W.heap.size #[.slice none 0 0] 41 := by rw [← hW1]; exact Blk.new W _ _
  have s1 : W1.heap.size = W.heap.size + 1 := by rw [← hW1]; simp
  have hg1 := hg.keep b1
  have hm1 := hm.keep b1
  have hgl := hg.lt
  have hml := hm.lt
  clear hg hm
  refine callsIn_wide.1 (callsIn_of_wp_marks (n := 0) Try.func56 rfl trivial ?_)
  simp only [Try.ntmps56, List.size_toArray, List.length_cons, List.length_nil, Nat.reduceAdd, Nat.reduceSub, Array.replicate_succ, Array.replicate_zero, List.push_toArray, List.append_toArray, List.nil_append, List.cons_append]
  gi_wp2
  refine wpIn_rangeGQ (gf := 49) (lb := #[.pointer (some ⟨g, 0, none⟩)]) ?g ?eg (g0 := ([] : List Int)) (Fin := fun ks => ks.Perm (es.map (·.k))) (Y := KeyY es) (fp := fun b => b = W.heap.size ∨ W1.heap.size + 3 ≤ b) (M := W1.heap.size + 3) ?hM ?hit
    (fun ks A => Below W.heap.size W A ∧ ∃ v, Blk A W.heap.size #[v] 41 ∧ OwnI A (W1.heap.size + 3) 3 v ks) (fun _ _ _ => False) ?hI ?hIx ?hY ?hYs ?hfp ?h0 #[5] ?hassign ?hbody ?hdone ?hstop
  all_goals (try clear hW1)
  case g => rfl
  case eg => intro args w; rfl
  case hM => omega
  case hit =>
    intro W7 hbW hsW
    exact keys_iterD g mt c _ W7 _ es (hg1.keep hbW) (hm1.keep hbW) (by omega) (by omega) (by omega) (by omega)
  case hI =>
    rintro k A B ⟨h1, v, h2, h3⟩ he
    exact ⟨h1.trans (he.belowOf h1.size (fun b hb hc => by omega)), v, h2.ext he (by omega), h3.ext he (fun j hj hc => by have := (World.ownsRow.lt h3 j hj).1; omega)⟩
  case hIx =>
    rintro c k A B hf _
    exact hf
  case hY =>
    rintro k k' A B args h _
    exact h
  case hYs =>
    rintro k k' A args ⟨x, _, rfl, _⟩
    rfl
  case hfp =>
    rintro b h
    omega
  case h0 => exact ⟨b1, _, k1, World.ownsRow_nil _ _ _ 1⟩
  case hassign =>
    intro m args A K hs hK
    obtain ⟨v, rfl⟩ : ∃ v, args = #[v] := by
      match args, hs with
      | ⟨[v]⟩, _ => exact ⟨v, rfl⟩
    rw [rangeAct_one] at hK
    simp only [List.setIfInBounds_toArray, List.set_cons_zero, List.set_cons_succ] at hK
    clear hg1 hm1 s1 k1 b1
    gi_wp2
    exact hK
  case hstop =>
    intro c k A hf _
    exact hf.elim
  case hbody =>
    rintro m ks ks' A args ⟨hb, v, hk, ho⟩ ⟨x, rfl, rfl, hlen⟩ hsz
    obtain ⟨va, vn, vc, rfl⟩ : ∃ a n c, v = .slice a n c := by
      rcases ho.2 with ⟨e, _⟩ | ⟨g, cap, _, e, _⟩
      · exact ⟨_, _, _, e⟩
      · exact ⟨_, _, _, e⟩
    obtain ⟨A1, hA1⟩ : ∃ A1, A.alloc (.cells #[.int .i64 x] 3) = A1 := ⟨_, rfl⟩
    have bA : Below A.heap.size A A1 := by rw [← hA1]; exact (Below.refl _ A).alloc (Nat.le_refl _) _
    have hx1 : Is A1 (.slice (some ⟨A.heap.size, 0, none⟩) 1 1) [x] := ⟨_, 1, rfl, fun i y hi => by
      match i, hi with
      | 0, hi => cases hi; exact ⟨_, 0, rfl, by rw [← hA1]; exact (Blk.new A _ _).cell (o := 0) rfl⟩⟩
    have ho1 : OwnI A1 (W1.heap.size + 3) 3 (.slice va vn vc) ks := ho.ext (fp := nofp) (Ext.ofBelow bA) (fun _ _ h => h)
    obtain ⟨v', A2, hr, ho2, hg2, hb2⟩ := run_appendI (P := Try.prog) Try.underlying41 HI.out.1 HI.out.2.1 HI.out.2.2.1 HI.out.2.2.2 41 ho1 hx1 (by simp at hlen ⊢; omega) (by have := bA.size; omega)
    obtain ⟨va2, vn2, vc2, rfl⟩ : ∃ a n c, v' = .slice a n c := by
      rcases ho2.2 with ⟨e, _⟩ | ⟨g, cap, _, e, _⟩
      · exact ⟨_, _, _, e⟩
      · exact ⟨_, _, _, e⟩
    have hlo := World.ownsRow.lt ho
    have hkl := hk.lt
    have hWl := hb.size
    have xA : Ext (fun b => b = W.heap.size ∨ W1.heap.size + 3 ≤ b) A A2 := (Ext.ofBelow bA).grown hg2 (fun k h => .inl (.inr (hlo k h).1))
    have hk2 : Blk A2 W.heap.size #[.slice va vn vc] 41 := by
      unfold Blk
      rw [hg2.block _ (Nat.lt_of_lt_of_le hkl bA.size) (fun e => by have := (hlo _ e.symm).1; omega)]
      exact hk.keep bA
    have x3 : Ext (fun b => b = W.heap.size ∨ W1.heap.size + 3 ≤ b) A (A2.setCell ⟨W.heap.size, 0, none⟩ (.slice va2 vn2 vc2)) := xA.setCell (a := ⟨W.heap.size, 0, none⟩) (.inl (.inl rfl)) _
    have x4 : Ext (fun b => b = W.heap.size) A2 (A2.setCell ⟨W.heap.size, 0, none⟩ (.slice va2 vn2 vc2)) := (Ext.refl (fun b => b = W.heap.size) A2).setCell (a := ⟨W.heap.size, 0, none⟩) (.inl rfl) _
    have hfin : Ext (fun b => b = W.heap.size ∨ W1.heap.size + 3 ≤ b) A (A2.setCell ⟨W.heap.size, 0, none⟩ (.slice va2 vn2 vc2)) ∧ Below W.heap.size W (A2.setCell ⟨W.heap.size, 0, none⟩ (.slice va2 vn2 vc2)) ∧ ∃ v, Blk (A2.setCell ⟨W.heap.size, 0, none⟩ (.slice va2 vn2 vc2)) W.heap.size #[v] 41 ∧ OwnI (A2.setCell ⟨W.heap.size, 0, none⟩ (.slice va2 vn2 vc2)) (W1.heap.size + 3) 3 v (ks ++ [x]) :=
      ⟨x3, hb.trans (x3.belowOf hb.size (fun b hb hc => by omega)), _, hk2.set (o := 0) _, ho2.ext x4 (fun j hj hc => by have := (World.ownsRow.lt ho2 j hj).1; omega)⟩
    have HF := hid hfin
    have c0 := hk.cell (o := 0) rfl
    have c1 : A1.cell? ⟨W.heap.size, 0, none⟩ = some (.slice va vn vc) := (hk.keep bA).cell (o := 0) rfl
    have c2 := hk2.cell (o := 0) rfl
    have f2 := hk2.free 0
    rw [rangeAct_one]
    simp only [List.setIfInBounds_toArray, List.set_cons_zero, List.set_cons_succ]
    clear hfin x3 x4 xA hk2 ho2 hg2 hb2 ho1 hx1 hb hk ho bA hlo hkl hWl hlen hsz hg1 hm1 k1 b1 s1
    gi_wp2_with (gi_at_builtin; refine wpListIn_append_runK _ rfl _ _ _ _ rfl _ _ rfl rfl _ _ hr ?_)
    exact HF.out
  case hdone =>
    rintro ks A hp ⟨hb, v, hk, ho⟩ hd
    obtain ⟨va, vn, vc, rfl⟩ : ∃ a n c, v = .slice a n c := by
      rcases ho.2 with ⟨e, _⟩ | ⟨g, cap, _, e, _⟩
      · exact ⟨_, _, _, e⟩
      · exact ⟨_, _, _, e⟩
    have c0 := hk.cell (o := 0) rfl
    have ho' : OwnI A W.heap.size 3 (.slice va vn vc) ks := by
      refine ⟨ho.1, ho.2.imp id ?_⟩
      rintro ⟨g, cap, cur, e, q1, r⟩
      exact ⟨g, cap, cur, e, by omega, r⟩
    have hlo := World.ownsRow.lt ho
    have HF := hid (And.intro hb (And.intro ho' (And.intro hlo hp)))
    clear hb ho ho' hk hlo hp
    gi_wp2
    refine ⟨by simp, .inl ⟨_, _, rfl, run_takeDeferred hd, _, results_tmp rfl _ _ _, _, ks, rfl, HF.out.2.2.2, HF.out.2.1.ext (ext_putObj _ _ _) (fun j hj hc => by have := (HF.out.2.2.1 j hj).1; omega), HF.out.1.trans ((ext_putObj _ _ _).belowOf HF.out.1.size (fun b hb hc => by omega))⟩⟩

open Go.Sort in
set_option maxRecDepth 100000 in
theorem sort_own (W : World) (base : Nat) (v : Value) (ks : List Int) (ho : OwnI W base 3 v ks) (hl : ks.length ≤ 1000000) :
    Calls Try.prog 48 #[v] W fun e w' => (∃ x, e = .returned x) ∧ (∃ L, OwnI w' base 3 v L ∧ L.Perm ks ∧ L.Pairwise (· ≤ ·)) ∧ W.grownBy w' v.ownBlock := by
  rcases ho.2 with ⟨rfl, h0⟩ | ⟨g, cap, cur, rfl, hb, hg, h1, h2, h3, h4⟩
  · have : ks = [] := List.eq_nil_of_length_eq_zero h0
    subst this
    refine (srt_slices_Sort_int_none none 0 W).mono ?_
    rintro e w' ⟨rfl, rfl⟩
    exact ⟨⟨_, rfl⟩, ⟨[], ho, List.Perm.refl _, List.Pairwise.nil⟩, rfl, rfl, rfl, Nat.le_refl _, fun _ _ _ => rfl⟩
  · have hp : (ks.mergeSort fun x y => decide (x ≤ y)).Perm ks := List.mergeSort_perm _ _
    have hw := List.pairwise_mergeSort (le := fun x y : Int => decide (x ≤ y)) (fun a b c h1 h2 => by simp at *; omega) (fun a b => by simp; omega) ks
    rw [Nat.mul_one] at h4
    refine (srt_slices_Sort_int g 0 cap ks W (holds_of_blockI hg h4) (Array.getElem?_eq_some_iff.1 hg).1 (by omega)).mono ?_
    rintro e w' ⟨rfl, n, os, rfl⟩
    refine ⟨⟨_, rfl⟩, ⟨_, ?_, hp, hw.imp (fun h => by simpa using h)⟩, grownBy_sortedI _⟩
    unfold OwnI
    rw [hp.length_eq]
    exact ownsRow_sortedI hp.length_eq hb hg h1 h2 h3

set_option maxRecDepth 100000 in
set_option maxHeartbeats 1600000 in
theorem sorted_keysD (g mt c : Nat) (W : World) (es : List (Ent Int)) (hes : es.length ≤ 1000000) (hg : Blk W g #[.map (some mt)] 53) (hm : MapAt W mt encI es c) :
    Calls Try.prog 26 #[.func (.func 49) #[] #[.pointer (some ⟨g, 0, none⟩)]] W fun e w' => ∃ v L, e = .returned v ∧ L.Perm (es.map (·.k)) ∧ L.Pairwise (· ≤ ·) ∧ OwnI w' W.heap.size 3 v L ∧ Below W.heap.size W w' := by
  have HC : Calls Try.prog 47 #[.func (.func 49) #[] #[.pointer (some ⟨g, 0, none⟩)]] W fun e w' => ∃ v ks, e = .returned v ∧ ks.Perm (es.map (·.k)) ∧ OwnI w' W.heap.size 3 v ks ∧ Below W.heap.size W w' := by
    have HA := hid (append_keysD g mt c W es hes hg hm)
    clear hg hm
    go_enter Try.func47, Try.ntmps47
    go_wp2_with fail
    refine HA.out.mono ?_
    rintro e w' ⟨v, ks, rfl, hp, ho, hb⟩
    obtain ⟨va, vn, vc, rfl⟩ : ∃ a n c, v = .slice a n c := by
      rcases ho.2 with ⟨e, _⟩ | ⟨g, cap, _, e, _⟩
      · exact ⟨_, _, _, e⟩
      · exact ⟨_, _, _, e⟩
    have HP := hid (And.intro hp (And.intro ho hb))
    clear hp ho hb
    go_wp2_with fail
    go_ret
    exact ⟨_, ks, rfl, HP.out⟩
  have HC := hid HC
  clear hg hm
  go_enter Try.func26, Try.ntmps26
  go_wp2_with fail
  refine HC.out.mono ?_
  rintro e w1 ⟨v, ks, rfl, hp, ho, hb⟩
  obtain ⟨va, vn, vc, rfl⟩ : ∃ a n c, v = .slice a n c := by
    rcases ho.2 with ⟨e, _⟩ | ⟨g, cap, _, e, _⟩
    · exact ⟨_, _, _, e⟩
    · exact ⟨_, _, _, e⟩
  have HS := hid (sort_own w1 W.heap.size _ ks ho (by have := hp.length_eq; simp at this; omega))
  have hlo := World.ownsRow.lt ho
  have HP := hid (And.intro hp (And.intro hb hlo))
  clear hp ho hb hlo
  go_wp2_with fail
  refine HS.out.mono ?_
  rintro e w2 ⟨⟨x, rfl⟩, ⟨L, ho2, hp2, hw2⟩, hg2⟩
  have HQ := hid (And.intro ho2 (And.intro hp2 (And.intro hw2 hg2)))
  clear ho2 hp2 hw2 hg2 HS
  go_wp2_with fail
  go_ret
  obtain ⟨ho2, hp2, hw2, hg2⟩ := HQ.out
  obtain ⟨hp, hb, hlo⟩ := HP.out
  exact ⟨_, L, rfl, hp2.trans hp, hw2, ho2, hb.grown hg2 hb.size (fun k hk => (hlo k hk).1)⟩
theorem keys_callD (mt : Nat) (W : World) :
    Calls Try.prog 27 #[.map (some mt)] W fun e w' => e = .returned (.func (.func 49) #[] #[.pointer (some ⟨W.heap.size, 0, none⟩)]) ∧ w' = W.alloc (.cells #[.map (some mt)] 53) := by
  go_enter Try.func27, Try.ntmps27
  go_wp2_with fail
  go_ret
  exact ⟨rfl, rfl⟩
end Go.Proofs.Ytpkaepmmkojdaaa
