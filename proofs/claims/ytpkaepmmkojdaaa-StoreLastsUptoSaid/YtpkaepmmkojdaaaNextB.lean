import Derived.Test.YtpkaepmmkojdaaaMNextA
import Derived.Deep.CutRange
/-! Package store: next past its first block. -/
namespace Go.Proofs.Ytpkaepmmkojdaaa
open Go.RowKit
section
variable {W : World} {q : StP} {S : St} {D : Dk}
set_option maxRecDepth 100000 in
set_option maxHeartbeats 3200000 in
theorem store_next_empty (h : StAt W q S D) (hoff : D.off = false) (hlt : S.fin < D.texts.length) (hv : D.vers (S.fin : Int) = none) (k n : Nat) (x : List UInt8) (hp : D.part S.num S.fin = some (k, n, x)) (hn : n < 1) :
    Calls Try.prog 15 #[.pointer (some ⟨q.s, 0, none⟩)] W fun e w' => e = .returned (.tuple #[.agg #[.int .i64 0, .int .i64 0, .int .i64 0, .slice none 0 0], .int .i64 0, .bool false]) ∧ Below W.heap.size W w' := by
  obtain ⟨W1, hW1⟩ : ∃ W1, W.alloc (.cells #[.int .i64 0, .int .i64 0, .int .i64 0, .slice none 0 0] 62) = W1 := ⟨_, rfl⟩
  have b1 : Below W.heap.size W W1 := by rw [← hW1]; exact (Below.refl _ W).alloc (Nat.le_refl _) _
  have q0 : Blk W1 W.heap.size #[.int .i64 0, .int .i64 0, .int .i64 0, .slice none 0 0] 62 := by rw [← hW1]; exact Blk.new W _ _
  have h1 := h.keep b1
  have c3 := h1.cell.cell (o := 3) rfl
  go_enter Try.func15, Try.ntmps15
  go_wp2_with fail
  refine (store_part h1 hoff S.fin hlt hv).mono ?_
  rw [hp]
  rintro e W2 ⟨v, rfl, hbv, hvo, b2⟩
  have HQ := hid (q0.keep b2)
  have HB2 := hid (b1.trans (b2.mono b1.size))
  have HS := hid (h1.keep b2)
  have hd1 : decide ((n : Int) < 1) = true := decide_eq_true (by omega)
  clear b1 b2 q0 h1 c3 hp hv hlt hoff h
  go_upto_region 2 with fail
  refine wp_region_invG rfl Grows (fun i v x => match i with
      | 0 => v = .bool true
      | 1 => v = .bool false
      | 2 => v = .bool false
      | 3 => v = .int .i64 (n : Int)
      | 4 => v = .bool true
      | 5 => v = .bool true
      | 6 => v = .bool true
      | 7 => v = undef
      | 8 => v = undef
      | 9 => v = undef
      | 10 => v = undef
      | 11 => v = undef
      | 12 => v = undef
      | 13 => v = undef
      | 14 => v = undef
      | 15 => v = undef
      | 16 => v = undef
      | 17 => v = undef
      | 18 => v = undef
      | 19 => v = .bool true
      | _ => True) (by kernel_rfl) Grows.refl Grows.trans ?rstab ?rsteps ?rfin
  case rstab =>
    intro i v x y hg h
    match i with
    | 0 | 1 | 2 | 3 | 4 | 5 | 6 | 7 | 8 | 9 | 10 | 11 | 12 | 13 | 14 | 15 | 16 | 17 | 18 | 19 => exact h
    | n + 20 => trivial
  case rsteps =>
    refine ⟨?_, ?_, ?_, ?_, ?_, ?_, ?_, ?_, ?_, ?_, ?_, ?_, ?_, ?_, ?_, ?_, ?_, ?_, ?_, ?_, trivial⟩
    · intro a x hA
      refine .inl ⟨rfl, ?_⟩
      have t4 := hA.at_ 4 (by first | rfl | kernel_rfl) rfl
      refine step_value (w' := x) (v := .bool true) ?_ (Grows.refl _) ?_
      · go_simp
      · rfl
    · intro a x hA
      refine .inl ⟨rfl, ?_⟩
      have t24 : a.tmps[24]?.getD undef = .bool true := hA.dep_ ⟨0, .data⟩ (by simp) _ 24 rfl rfl
      refine step_value (w' := x) (v := .bool false) ?_ (Grows.refl _) ?_
      · go_simp
      · rfl
    · intro a x hA
      refine .inl ⟨rfl, ?_⟩
      have t25 : a.tmps[25]?.getD undef = .bool false := hA.dep_ ⟨1, .data⟩ (by simp) _ 25 rfl rfl
      refine step_value (w' := x) (v := .bool false) ?_ (Grows.refl _) ?_
      · go_simp
      · rfl
    · intro a x hA
      have tg : a.tmps[26]?.getD undef = .bool false := hA.dep_ ⟨2, .guard⟩ (by simp) _ 26 rfl rfl
      refine .inl ⟨by rw [wanted_of (j := 2) rfl (yielded_of (by rfl) rfl tg)]; rfl, ?_⟩
      clear tg
      have t3 := hA.at_ 3 (by first | rfl | kernel_rfl) rfl
      refine step_value (w' := x) (v := .int .i64 (n : Int)) ?_ (Grows.refl _) ?_
      · go_simp
      · rfl
    · intro a x hA
      have tg : a.tmps[26]?.getD undef = .bool false := hA.dep_ ⟨2, .guard⟩ (by simp) _ 26 rfl rfl
      refine .inl ⟨by rw [wanted_of (j := 2) rfl (yielded_of (by rfl) rfl tg)]; rfl, ?_⟩
      clear tg
      have t27 : a.tmps[27]?.getD undef = .int .i64 (n : Int) := hA.dep_ ⟨3, .data⟩ (by simp) _ 27 rfl rfl
      refine step_value (w' := x) (v := .bool true) ?_ (Grows.refl _) ?_
      · go_simp
      · rfl
    · intro a x hA
      refine .inl ⟨rfl, ?_⟩
      have t26 : a.tmps[26]?.getD undef = .bool false := hA.dep_ ⟨2, .data⟩ (by simp) _ 26 rfl rfl
      have t28 : a.tmps[28]?.getD undef = .bool true := hA.dep_ ⟨4, .data⟩ (by simp) _ 28 rfl rfl
      refine step_value (w' := x) (v := .bool true) ?_ (Grows.refl _) ?_
      · go_simp
      · rfl
    · intro a x hA
      refine .inl ⟨rfl, ?_⟩
      have t29 : a.tmps[29]?.getD undef = .bool true := hA.dep_ ⟨5, .data⟩ (by simp) _ 29 rfl rfl
      refine step_value (w' := x) (v := .bool true) ?_ (Grows.refl _) ?_
      · go_simp
      · rfl
    · intro a x hA
      have tg : a.tmps[30]?.getD undef = .bool true := hA.dep_ ⟨6, .guard⟩ (by simp) _ 30 rfl rfl
      exact .inr ⟨by rw [wanted_of (j := 6) rfl (yielded_of (by rfl) rfl tg)]; rfl, rfl⟩
    · intro a x hA
      have tg : a.tmps[30]?.getD undef = .bool true := hA.dep_ ⟨6, .guard⟩ (by simp) _ 30 rfl rfl
      exact .inr ⟨by rw [wanted_of (j := 6) rfl (yielded_of (by rfl) rfl tg)]; rfl, rfl⟩
    · intro a x hA
      have tg : a.tmps[30]?.getD undef = .bool true := hA.dep_ ⟨6, .guard⟩ (by simp) _ 30 rfl rfl
      exact .inr ⟨by rw [wanted_of (j := 6) rfl (yielded_of (by rfl) rfl tg)]; rfl, rfl⟩
    · intro a x hA
      have tg : a.tmps[30]?.getD undef = .bool true := hA.dep_ ⟨6, .guard⟩ (by simp) _ 30 rfl rfl
      exact .inr ⟨by rw [wanted_of (j := 6) rfl (yielded_of (by rfl) rfl tg)]; rfl, rfl⟩
    · intro a x hA
      have tg : a.tmps[30]?.getD undef = .bool true := hA.dep_ ⟨6, .guard⟩ (by simp) _ 30 rfl rfl
      exact .inr ⟨by rw [wanted_of (j := 6) rfl (yielded_of (by rfl) rfl tg)]; rfl, rfl⟩
    · intro a x hA
      have tg : a.tmps[30]?.getD undef = .bool true := hA.dep_ ⟨6, .guard⟩ (by simp) _ 30 rfl rfl
      exact .inr ⟨by rw [wanted_of (j := 6) rfl (yielded_of (by rfl) rfl tg)]; rfl, rfl⟩
    · intro a x hA
      have tg : a.tmps[30]?.getD undef = .bool true := hA.dep_ ⟨6, .guard⟩ (by simp) _ 30 rfl rfl
      exact .inr ⟨by rw [wanted_of (j := 6) rfl (yielded_of (by rfl) rfl tg)]; rfl, rfl⟩
    · intro a x hA
      have tg : a.tmps[30]?.getD undef = .bool true := hA.dep_ ⟨6, .guard⟩ (by simp) _ 30 rfl rfl
      exact .inr ⟨by rw [wanted_of (j := 6) rfl (yielded_of (by rfl) rfl tg)]; rfl, rfl⟩
    · intro a x hA
      have tg : a.tmps[30]?.getD undef = .bool true := hA.dep_ ⟨6, .guard⟩ (by simp) _ 30 rfl rfl
      exact .inr ⟨by rw [wanted_of (j := 6) rfl (yielded_of (by rfl) rfl tg)]; rfl, rfl⟩
    · intro a x hA
      have tg : a.tmps[30]?.getD undef = .bool true := hA.dep_ ⟨6, .guard⟩ (by simp) _ 30 rfl rfl
      exact .inr ⟨by rw [wanted_of (j := 6) rfl (yielded_of (by rfl) rfl tg)]; rfl, rfl⟩
    · intro a x hA
      have tg : a.tmps[30]?.getD undef = .bool true := hA.dep_ ⟨6, .guard⟩ (by simp) _ 30 rfl rfl
      exact .inr ⟨by rw [wanted_of (j := 6) rfl (yielded_of (by rfl) rfl tg)]; rfl, rfl⟩
    · intro a x hA
      have tg : a.tmps[30]?.getD undef = .bool true := hA.dep_ ⟨6, .guard⟩ (by simp) _ 30 rfl rfl
      exact .inr ⟨by rw [wanted_of (j := 6) rfl (yielded_of (by rfl) rfl tg)]; rfl, rfl⟩
    · intro a x hA
      refine .inl ⟨rfl, ?_⟩
      have t30 : a.tmps[30]?.getD undef = .bool true := hA.dep_ ⟨6, .data⟩ (by simp) _ 30 rfl rfl
      have t42 : a.tmps[42]?.getD undef = undef := hA.dep_ ⟨18, .data⟩ (by simp) _ 42 rfl rfl
      refine step_value (w' := x) (v := .bool true) ?_ (Grows.refl _) ?_
      · go_simp
      · rfl
  case rfin =>
    intro y W' hg hV
    simp only [AllVals] at hV
    obtain ⟨_, _, _, _, _, _, _, _, _, _, _, _, _, _, _, _, _, _, _, u19, _⟩ := hV
    have hb := pg_to hg
    clear hg
    simp only [putAll, Act.put, List.setIfInBounds_toArray, List.set_cons_zero, List.set_cons_succ]
    rw [u19]
    clear u19
    have b3 := HB2.out.trans (hb.mono HB2.out.size)
    have q3 := HQ.out.keep hb
    clear hb
    have k0 := q3.cell (o := 0) rfl
    have k1 := q3.cell (o := 1) rfl
    have k2 := q3.cell (o := 2) rfl
    have k3 := q3.cell (o := 3) rfl
    have l0 := q3.free 0
    have l1 := q3.free 1
    have l2 := q3.free 2
    have l3 := q3.free 3
    have bN : Below W.heap.size W W' := b3
    have bS : Below W.heap.size W ((((W'.setCell ⟨W.heap.size, 0, none⟩ (.int .i64 0)).setCell ⟨W.heap.size, 1, none⟩ (.int .i64 0)).setCell ⟨W.heap.size, 2, none⟩ (.int .i64 0)).setCell ⟨W.heap.size, 3, none⟩ (.slice none 0 0)) :=
      (((bN.setCell (p := ⟨W.heap.size, 0, none⟩) (by simp) _).setCell (p := ⟨W.heap.size, 1, none⟩) (by simp) _).setCell (p := ⟨W.heap.size, 2, none⟩) (by simp) _).setCell (p := ⟨W.heap.size, 3, none⟩) (by simp) _
    have qF : Blk ((((W'.setCell ⟨W.heap.size, 0, none⟩ (.int .i64 0)).setCell ⟨W.heap.size, 1, none⟩ (.int .i64 0)).setCell ⟨W.heap.size, 2, none⟩ (.int .i64 0)).setCell ⟨W.heap.size, 3, none⟩ (.slice none 0 0)) W.heap.size #[.int .i64 0, .int .i64 0, .int .i64 0, .slice none 0 0] 62 := by
      have h2 : Blk W' W.heap.size #[.int .i64 0, .int .i64 0, .int .i64 0, .slice none 0 0] 62 := q3
      have := (((h2.set (o := 0) (.int .i64 0)).set (o := 1) (.int .i64 0)).set (o := 2) (.int .i64 0)).set (o := 3) (.slice none 0 0)
      simpa using this
    have HS := hid bS
    have HF := hid qF
    clear bS qF bN
    go_wp2_with fail
    have bS := HS.out
    have qF := HF.out
    clear HS HF
    generalize (((W'.setCell ⟨W.heap.size, 0, none⟩ (.int .i64 0)).setCell ⟨W.heap.size, 1, none⟩ (.int .i64 0)).setCell ⟨W.heap.size, 2, none⟩ (.int .i64 0)).setCell ⟨W.heap.size, 3, none⟩ (.slice none 0 0) = WS at *
    have hld := run_loadVar_row (P := Try.prog) WS W.heap.size 62 62 _ (0, 0) _ qF Try.underlying62 rfl size_entry
    refine bodyPost_ret (v := .tuple #[.agg #[.int .i64 0, .int .i64 0, .int .i64 0, .slice none 0 0], .int .i64 0, .bool false]) ?_ rfl ?_
    · simp [results, Try.results15, hld, asAddr]
    · exact ⟨rfl, bS⟩

set_option maxRecDepth 100000 in
set_option maxHeartbeats 3200000 in
theorem store_next_big (h : StAt W q S D) (hoff : D.off = false) (hlt : S.fin < D.texts.length) (hv : D.vers (S.fin : Int) = none) (k n : Nat) (x : List UInt8) (hp : D.part S.num S.fin = some (k, n, x)) (hn : 1 ≤ n) (hbig : D.texts.length - S.fin < n) :
    Calls Try.prog 15 #[.pointer (some ⟨q.s, 0, none⟩)] W fun e w' => e = .returned (.tuple #[.agg #[.int .i64 0, .int .i64 0, .int .i64 0, .slice none 0 0], .int .i64 0, .bool false]) ∧ Below W.heap.size W w' := by
  obtain ⟨W1, hW1⟩ : ∃ W1, W.alloc (.cells #[.int .i64 0, .int .i64 0, .int .i64 0, .slice none 0 0] 62) = W1 := ⟨_, rfl⟩
  have b1 : Below W.heap.size W W1 := by rw [← hW1]; exact (Below.refl _ W).alloc (Nat.le_refl _) _
  have q0 : Blk W1 W.heap.size #[.int .i64 0, .int .i64 0, .int .i64 0, .slice none 0 0] 62 := by rw [← hW1]; exact Blk.new W _ _
  have h1 := h.keep b1
  have c3 := h1.cell.cell (o := 3) rfl
  go_enter Try.func15, Try.ntmps15
  go_wp2_with fail
  refine (store_part h1 hoff S.fin hlt hv).mono ?_
  rw [hp]
  rintro e W2 ⟨v, rfl, hbv, hvo, b2⟩
  have HQ := hid (q0.keep b2)
  have HB2 := hid (b1.trans (b2.mono b1.size))
  have HS := hid (h1.keep b2)
  have hd1 : decide ((n : Int) < 1) = false := decide_eq_false (by omega)
  have hmost := h.disk.most
  obtain ⟨N, hN⟩ : ∃ N, D.texts.length = N := ⟨_, rfl⟩
  rw [hN] at hbig hmost hlt
  have HN := hid hN
  have hd2 : decide ((n : Int) > (N : Int) - (S.fin : Int)) = true := decide_eq_true (by omega)
  have hw2 : IntKind.i64.wrap ((N : Int) - (S.fin : Int)) = (N : Int) - (S.fin : Int) := by rw [IntKind.wrap_i64]; omega
  clear hbig hmost hN hn
  clear b1 b2 q0 h1 c3 hp hv hlt hoff h
  go_upto_region 2 with fail
  refine wp_region_invG rfl Grows (fun i v x => match i with
      | 0 => v = .bool true
      | 1 => v = .bool false
      | 2 => v = .bool false
      | 3 => v = .int .i64 (n : Int)
      | 4 => v = .bool false
      | 5 => v = .bool false
      | 6 => v = .bool false
      | 7 => v = .int .i64 (n : Int)
      | 8 => v = .pointer (some ⟨q.s, 0, none⟩)
      | 9 => v = .pointer (some ⟨q.s, 0, none⟩)
      | 10 => v = .pointer (some ⟨q.s, 0, none⟩)
      | 11 => v = .pointer (some ⟨q.p.d, 0, none⟩)
      | 12 => v = .int .i64 (N : Int)
      | 13 => v = .pointer (some ⟨q.s, 0, none⟩)
      | 14 => v = .pointer (some ⟨q.s, 0, none⟩)
      | 15 => v = .pointer (some ⟨q.s, 3, none⟩)
      | 16 => v = .int .i64 (S.fin : Int)
      | 17 => v = .int .i64 ((N : Int) - (S.fin : Int))
      | 18 => v = .bool true
      | 19 => v = .bool true
      | _ => True) (by kernel_rfl) Grows.refl Grows.trans ?rstab ?rsteps ?rfin
  case rstab =>
    intro i v x y hg h
    match i with
    | 0 | 1 | 2 | 3 | 4 | 5 | 6 | 7 | 8 | 9 | 10 | 11 | 12 | 13 | 14 | 15 | 16 | 17 | 18 | 19 => exact h
    | n + 20 => trivial
  case rsteps =>
    refine ⟨?_, ?_, ?_, ?_, ?_, ?_, ?_, ?_, ?_, ?_, ?_, ?_, ?_, ?_, ?_, ?_, ?_, ?_, ?_, ?_, trivial⟩
    · intro a x hA
      refine .inl ⟨rfl, ?_⟩
      have t4 := hA.at_ 4 (by first | rfl | kernel_rfl) rfl
      refine step_value (w' := x) (v := .bool true) ?_ (Grows.refl _) ?_
      · go_simp
      · rfl
    · intro a x hA
      refine .inl ⟨rfl, ?_⟩
      have t24 : a.tmps[24]?.getD undef = .bool true := hA.dep_ ⟨0, .data⟩ (by simp) _ 24 rfl rfl
      refine step_value (w' := x) (v := .bool false) ?_ (Grows.refl _) ?_
      · go_simp
      · rfl
    · intro a x hA
      refine .inl ⟨rfl, ?_⟩
      have t25 : a.tmps[25]?.getD undef = .bool false := hA.dep_ ⟨1, .data⟩ (by simp) _ 25 rfl rfl
      refine step_value (w' := x) (v := .bool false) ?_ (Grows.refl _) ?_
      · go_simp
      · rfl
    · intro a x hA
      have tg : a.tmps[26]?.getD undef = .bool false := hA.dep_ ⟨2, .guard⟩ (by simp) _ 26 rfl rfl
      refine .inl ⟨by rw [wanted_of (j := 2) rfl (yielded_of (by rfl) rfl tg)]; rfl, ?_⟩
      clear tg
      have t3 := hA.at_ 3 (by first | rfl | kernel_rfl) rfl
      refine step_value (w' := x) (v := .int .i64 (n : Int)) ?_ (Grows.refl _) ?_
      · go_simp
      · rfl
    · intro a x hA
      have tg : a.tmps[26]?.getD undef = .bool false := hA.dep_ ⟨2, .guard⟩ (by simp) _ 26 rfl rfl
      refine .inl ⟨by rw [wanted_of (j := 2) rfl (yielded_of (by rfl) rfl tg)]; rfl, ?_⟩
      clear tg
      have t27 : a.tmps[27]?.getD undef = .int .i64 (n : Int) := hA.dep_ ⟨3, .data⟩ (by simp) _ 27 rfl rfl
      refine step_value (w' := x) (v := .bool false) ?_ (Grows.refl _) ?_
      · go_simp
      · rfl
    · intro a x hA
      refine .inl ⟨rfl, ?_⟩
      have t26 : a.tmps[26]?.getD undef = .bool false := hA.dep_ ⟨2, .data⟩ (by simp) _ 26 rfl rfl
      have t28 : a.tmps[28]?.getD undef = .bool false := hA.dep_ ⟨4, .data⟩ (by simp) _ 28 rfl rfl
      refine step_value (w' := x) (v := .bool false) ?_ (Grows.refl _) ?_
      · go_simp
      · rfl
    · intro a x hA
      refine .inl ⟨rfl, ?_⟩
      have t29 : a.tmps[29]?.getD undef = .bool false := hA.dep_ ⟨5, .data⟩ (by simp) _ 29 rfl rfl
      refine step_value (w' := x) (v := .bool false) ?_ (Grows.refl _) ?_
      · go_simp
      · rfl
    · intro a x hA
      have tg : a.tmps[30]?.getD undef = .bool false := hA.dep_ ⟨6, .guard⟩ (by simp) _ 30 rfl rfl
      refine .inl ⟨by rw [wanted_of (j := 6) rfl (yielded_of (by rfl) rfl tg)]; rfl, ?_⟩
      clear tg
      have t3 := hA.at_ 3 (by first | rfl | kernel_rfl) rfl
      refine step_value (w' := x) (v := .int .i64 (n : Int)) ?_ (Grows.refl _) ?_
      · go_simp
      · rfl
    · intro a x hA
      have tg : a.tmps[30]?.getD undef = .bool false := hA.dep_ ⟨6, .guard⟩ (by simp) _ 30 rfl rfl
      refine .inl ⟨by rw [wanted_of (j := 6) rfl (yielded_of (by rfl) rfl tg)]; rfl, ?_⟩
      clear tg
      have t0 := hA.at_ 0 (by first | rfl | kernel_rfl) rfl
      refine step_value (w' := x) (v := .pointer (some ⟨q.s, 0, none⟩)) ?_ (Grows.refl _) ?_
      · go_simp
      · rfl
    · intro a x hA
      have tg : a.tmps[30]?.getD undef = .bool false := hA.dep_ ⟨6, .guard⟩ (by simp) _ 30 rfl rfl
      refine .inl ⟨by rw [wanted_of (j := 6) rfl (yielded_of (by rfl) rfl tg)]; rfl, ?_⟩
      clear tg
      have t32 : a.tmps[32]?.getD undef = .pointer (some ⟨q.s, 0, none⟩) := hA.dep_ ⟨8, .data⟩ (by simp) _ 32 rfl rfl
      refine step_value (w' := x) (v := .pointer (some ⟨q.s, 0, none⟩)) ?_ (Grows.refl _) ?_
      · go_simp
      · rfl
    · intro a x hA
      have tg : a.tmps[30]?.getD undef = .bool false := hA.dep_ ⟨6, .guard⟩ (by simp) _ 30 rfl rfl
      refine .inl ⟨by rw [wanted_of (j := 6) rfl (yielded_of (by rfl) rfl tg)]; rfl, ?_⟩
      clear tg
      have t33 : a.tmps[33]?.getD undef = .pointer (some ⟨q.s, 0, none⟩) := hA.dep_ ⟨9, .data⟩ (by simp) _ 33 rfl rfl
      refine step_value (w' := x) (v := .pointer (some ⟨q.s, 0, none⟩)) ?_ (Grows.refl _) ?_
      · go_simp
      · rfl
    · intro a x hA
      have tg : a.tmps[30]?.getD undef = .bool false := hA.dep_ ⟨6, .guard⟩ (by simp) _ 30 rfl rfl
      refine .inl ⟨by rw [wanted_of (j := 6) rfl (yielded_of (by rfl) rfl tg)]; rfl, ?_⟩
      clear tg
      have t34 : a.tmps[34]?.getD undef = .pointer (some ⟨q.s, 0, none⟩) := hA.dep_ ⟨10, .data⟩ (by simp) _ 34 rfl rfl
      have hSx := HS.out.keep hA.grown
      have cs0 := hSx.cell.cell (o := 0) rfl
      have cs3 := hSx.cell.cell (o := 3) rfl
      clear hSx
      refine step_value (w' := x) (v := .pointer (some ⟨q.p.d, 0, none⟩)) ?_ (Grows.refl _) ?_
      · go_simp
      · rfl
    · intro a x hA
      have tg : a.tmps[30]?.getD undef = .bool false := hA.dep_ ⟨6, .guard⟩ (by simp) _ 30 rfl rfl
      refine .inl ⟨by rw [wanted_of (j := 6) rfl (yielded_of (by rfl) rfl tg)]; rfl, ?_⟩
      clear tg
      have t35 : a.tmps[35]?.getD undef = .pointer (some ⟨q.p.d, 0, none⟩) := hA.dep_ ⟨11, .data⟩ (by simp) _ 35 rfl rfl
      have hSx := HS.out.keep hA.grown
      have cs0 := hSx.cell.cell (o := 0) rfl
      have cs3 := hSx.cell.cell (o := 3) rfl
      clear hSx
      have hSy := HS.out.keep hA.grown
      have hbl := disk_Blocks hSy.disk
      rw [HN.out] at hbl
      refine step_call (f := 13) (args := #[.pointer (some ⟨q.p.d, 0, none⟩)]) (by clear hSy hbl; go_simp) (hbl.mono ?_)
      rintro e w' ⟨rfl, hw⟩
      subst hw
      exact ⟨_, rfl, Grows.refl _, rfl⟩
    · intro a x hA
      have tg : a.tmps[30]?.getD undef = .bool false := hA.dep_ ⟨6, .guard⟩ (by simp) _ 30 rfl rfl
      refine .inl ⟨by rw [wanted_of (j := 6) rfl (yielded_of (by rfl) rfl tg)]; rfl, ?_⟩
      clear tg
      have t0 := hA.at_ 0 (by first | rfl | kernel_rfl) rfl
      refine step_value (w' := x) (v := .pointer (some ⟨q.s, 0, none⟩)) ?_ (Grows.refl _) ?_
      · go_simp
      · rfl
    · intro a x hA
      have tg : a.tmps[30]?.getD undef = .bool false := hA.dep_ ⟨6, .guard⟩ (by simp) _ 30 rfl rfl
      refine .inl ⟨by rw [wanted_of (j := 6) rfl (yielded_of (by rfl) rfl tg)]; rfl, ?_⟩
      clear tg
      have t37 : a.tmps[37]?.getD undef = .pointer (some ⟨q.s, 0, none⟩) := hA.dep_ ⟨13, .data⟩ (by simp) _ 37 rfl rfl
      refine step_value (w' := x) (v := .pointer (some ⟨q.s, 0, none⟩)) ?_ (Grows.refl _) ?_
      · go_simp
      · rfl
    · intro a x hA
      have tg : a.tmps[30]?.getD undef = .bool false := hA.dep_ ⟨6, .guard⟩ (by simp) _ 30 rfl rfl
      refine .inl ⟨by rw [wanted_of (j := 6) rfl (yielded_of (by rfl) rfl tg)]; rfl, ?_⟩
      clear tg
      have t38 : a.tmps[38]?.getD undef = .pointer (some ⟨q.s, 0, none⟩) := hA.dep_ ⟨14, .data⟩ (by simp) _ 38 rfl rfl
      refine step_value (w' := x) (v := .pointer (some ⟨q.s, 3, none⟩)) ?_ (Grows.refl _) ?_
      · go_simp
      · rfl
    · intro a x hA
      have tg : a.tmps[30]?.getD undef = .bool false := hA.dep_ ⟨6, .guard⟩ (by simp) _ 30 rfl rfl
      refine .inl ⟨by rw [wanted_of (j := 6) rfl (yielded_of (by rfl) rfl tg)]; rfl, ?_⟩
      clear tg
      have t39 : a.tmps[39]?.getD undef = .pointer (some ⟨q.s, 3, none⟩) := hA.dep_ ⟨15, .data⟩ (by simp) _ 39 rfl rfl
      have hSx := HS.out.keep hA.grown
      have cs0 := hSx.cell.cell (o := 0) rfl
      have cs3 := hSx.cell.cell (o := 3) rfl
      clear hSx
      refine step_value (w' := x) (v := .int .i64 (S.fin : Int)) ?_ (Grows.refl _) ?_
      · go_simp
      · rfl
    · intro a x hA
      have tg : a.tmps[30]?.getD undef = .bool false := hA.dep_ ⟨6, .guard⟩ (by simp) _ 30 rfl rfl
      refine .inl ⟨by rw [wanted_of (j := 6) rfl (yielded_of (by rfl) rfl tg)]; rfl, ?_⟩
      clear tg
      have t36 : a.tmps[36]?.getD undef = .int .i64 (N : Int) := hA.dep_ ⟨12, .data⟩ (by simp) _ 36 rfl rfl
      have t40 : a.tmps[40]?.getD undef = .int .i64 (S.fin : Int) := hA.dep_ ⟨16, .data⟩ (by simp) _ 40 rfl rfl
      refine step_value (w' := x) (v := .int .i64 ((N : Int) - (S.fin : Int))) ?_ (Grows.refl _) ?_
      · go_simp
      · rfl
    · intro a x hA
      have tg : a.tmps[30]?.getD undef = .bool false := hA.dep_ ⟨6, .guard⟩ (by simp) _ 30 rfl rfl
      refine .inl ⟨by rw [wanted_of (j := 6) rfl (yielded_of (by rfl) rfl tg)]; rfl, ?_⟩
      clear tg
      have t31 : a.tmps[31]?.getD undef = .int .i64 (n : Int) := hA.dep_ ⟨7, .data⟩ (by simp) _ 31 rfl rfl
      have t41 : a.tmps[41]?.getD undef = .int .i64 ((N : Int) - (S.fin : Int)) := hA.dep_ ⟨17, .data⟩ (by simp) _ 41 rfl rfl
      refine step_value (w' := x) (v := .bool true) ?_ (Grows.refl _) ?_
      · go_simp
      · rfl
    · intro a x hA
      refine .inl ⟨rfl, ?_⟩
      have t30 : a.tmps[30]?.getD undef = .bool false := hA.dep_ ⟨6, .data⟩ (by simp) _ 30 rfl rfl
      have t42 : a.tmps[42]?.getD undef = .bool true := hA.dep_ ⟨18, .data⟩ (by simp) _ 42 rfl rfl
      refine step_value (w' := x) (v := .bool true) ?_ (Grows.refl _) ?_
      · go_simp
      · rfl
  case rfin =>
    intro y W' hg hV
    simp only [AllVals] at hV
    obtain ⟨_, _, _, _, _, _, _, _, _, _, _, _, _, _, _, _, _, _, _, u19, _⟩ := hV
    have hb := pg_to hg
    clear hg
    simp only [putAll, Act.put, List.setIfInBounds_toArray, List.set_cons_zero, List.set_cons_succ]
    rw [u19]
    clear u19
    have b3 := HB2.out.trans (hb.mono HB2.out.size)
    have q3 := HQ.out.keep hb
    clear hb
    have k0 := q3.cell (o := 0) rfl
    have k1 := q3.cell (o := 1) rfl
    have k2 := q3.cell (o := 2) rfl
    have k3 := q3.cell (o := 3) rfl
    have l0 := q3.free 0
    have l1 := q3.free 1
    have l2 := q3.free 2
    have l3 := q3.free 3
    have bN : Below W.heap.size W W' := b3
    have bS : Below W.heap.size W ((((W'.setCell ⟨W.heap.size, 0, none⟩ (.int .i64 0)).setCell ⟨W.heap.size, 1, none⟩ (.int .i64 0)).setCell ⟨W.heap.size, 2, none⟩ (.int .i64 0)).setCell ⟨W.heap.size, 3, none⟩ (.slice none 0 0)) :=
      (((bN.setCell (p := ⟨W.heap.size, 0, none⟩) (by simp) _).setCell (p := ⟨W.heap.size, 1, none⟩) (by simp) _).setCell (p := ⟨W.heap.size, 2, none⟩) (by simp) _).setCell (p := ⟨W.heap.size, 3, none⟩) (by simp) _
    have qF : Blk ((((W'.setCell ⟨W.heap.size, 0, none⟩ (.int .i64 0)).setCell ⟨W.heap.size, 1, none⟩ (.int .i64 0)).setCell ⟨W.heap.size, 2, none⟩ (.int .i64 0)).setCell ⟨W.heap.size, 3, none⟩ (.slice none 0 0)) W.heap.size #[.int .i64 0, .int .i64 0, .int .i64 0, .slice none 0 0] 62 := by
      have h2 : Blk W' W.heap.size #[.int .i64 0, .int .i64 0, .int .i64 0, .slice none 0 0] 62 := q3
      have := (((h2.set (o := 0) (.int .i64 0)).set (o := 1) (.int .i64 0)).set (o := 2) (.int .i64 0)).set (o := 3) (.slice none 0 0)
      simpa using this
    have HS := hid bS
    have HF := hid qF
    clear bS qF bN
    go_wp2_with fail
    have bS := HS.out
    have qF := HF.out
    clear HS HF
    generalize (((W'.setCell ⟨W.heap.size, 0, none⟩ (.int .i64 0)).setCell ⟨W.heap.size, 1, none⟩ (.int .i64 0)).setCell ⟨W.heap.size, 2, none⟩ (.int .i64 0)).setCell ⟨W.heap.size, 3, none⟩ (.slice none 0 0) = WS at *
    have hld := run_loadVar_row (P := Try.prog) WS W.heap.size 62 62 _ (0, 0) _ qF Try.underlying62 rfl size_entry
    refine bodyPost_ret (v := .tuple #[.agg #[.int .i64 0, .int .i64 0, .int .i64 0, .slice none 0 0], .int .i64 0, .bool false]) ?_ rfl ?_
    · simp [results, Try.results15, hld, asAddr]
    · exact ⟨rfl, bS⟩

end
end Go.Proofs.Ytpkaepmmkojdaaa
