import Derived.Test.YtpkaepmmkojdaaaMWriteB
import Derived.Test.YtpkaepmmkojdaaaMChunk
/-! Package disk, on: Sync. -/
namespace Go.Proofs.Ytpkaepmmkojdaaa
open Go.RowKit

/-- A version made durable; all of them. -/
def Dk.keep1 (D : Dk) (i : Int) (t : List UInt8) : Dk := { D with texts := D.texts.set i.toNat t, bad := fun k => D.bad k && !decide (k = i), vers := fun k => if k = i then none else D.vers k }
def Dk.synced (D : Dk) : Dk := { D with texts := D.texts.mapIdx (fun i t => (D.vers (i : Int)).getD t), bad := fun k => D.bad k && (D.vers k).isNone, vers := fun _ => none }

theorem Dk.keep1_synced (D : Dk) (i : Nat) (t : List UInt8) (h : D.vers (i : Int) = some t) : (D.keep1 (i : Int) t).synced = D.synced := by
  unfold Dk.synced Dk.keep1
  congr 1
  · apply List.ext_getElem?
    intro j
    simp only [List.getElem?_mapIdx, List.getElem?_set, Int.toNat_natCast]
    by_cases hj : i = j
    · subst hj
      by_cases hlt : i < D.texts.length
      · simp [hlt, h]
      · simp [hlt, h]
    · have : ¬ ((j : Int) = (i : Int)) := by omega
      simp [hj, this]
  · funext k
    by_cases hk : k = (i : Int)
    · subst hk; simp [h]
    · simp [hk]
theorem Dk.synced_none (D : Dk) (h : ∀ k, D.vers k = none) : D.synced = D := by
  have hv : D.vers = fun _ => none := funext h
  cases D
  simp only [Dk.synced] at *
  subst hv
  congr 1
  · apply List.ext_getElem?
    intro i
    simp
  · simp

theorem encI_inj : ∀ (a b : Int), encI a = encI b → a = b := fun a b h => by simpa [encI] using h
theorem mapAt_eq {K : Type} {enc : K → Value} (hi : ∀ a b, enc a = enc b → a = b) {w : World} {b : Nat} {es es' : List (Ent K)} {c c' : Nat} (h : MapAt w b enc es c) (h' : MapAt w b enc es' c') : es = es' ∧ c = c' := by
  have h1 := h.heap.symm.trans h'.heap
  simp only [Option.some.injEq, Obj.map.injEq, Array.mk.injEq] at h1
  refine ⟨?_, h1.2⟩
  have h2 : es.map (Ent.raw enc) = es'.map (Ent.raw enc) := by simpa using h1.1
  clear h h' h1
  induction es generalizing es' with
  | nil => cases es' with | nil => rfl | cons a l => simp at h2
  | cons a l ih => cases es' with
    | nil => simp at h2
    | cons a' l' =>
      simp only [List.map_cons, List.cons.injEq] at h2
      rw [ih h2.2]
      have h3 := h2.1
      simp only [Ent.raw, MapEntry.mk.injEq] at h3
      cases a; cases a'
      simp only at h3
      rw [hi _ _ h3.1, h3.2.1, h3.2.2]

theorem nodup_map_inj {α β : Type} {f : α → β} : ∀ {l : List α}, (l.map f).Nodup → ∀ {a b : α}, a ∈ l → b ∈ l → f a = f b → a = b
  | [], _, _, _, ha, _, _ => by simp at ha
  | x :: l, h, a, b, ha, hb, e => by
    simp only [List.map_cons, List.nodup_cons] at h
    rcases List.mem_cons.1 ha with rfl | ha'
    · rcases List.mem_cons.1 hb with rfl | hb'
      · rfl
      · exact absurd (List.mem_map.2 ⟨b, hb', e.symm⟩) h.1
    · rcases List.mem_cons.1 hb with rfl | hb'
      · exact absurd (List.mem_map.2 ⟨a, ha', e⟩) h.1
      · exact nodup_map_inj h.2 ha' hb' e

def mapLen (W : World) (b : Nat) : Nat := match W.heap[b]? with | some (.map es _) => es.size | _ => 0
theorem MapAt.len {K : Type} {enc : K → Value} {w : World} {b : Nat} {es : List (Ent K)} {clock : Nat} (h : MapAt w b enc es clock) : mapLen w b = es.length := by simp [mapLen, h.heap]

theorem exec_delete {P : Program} {o : Oper} {ev : Operand → Value} {m k : Operand} {M X : TypeId} {w w' : World} (ho : o.op = .call { callee := .builtin .delete, args := #[m, k], argTypes := #[M, X] })
    (hr : (Builtin.delete_ #[M, X] o.type #[ev m, ev k]).run P w = .ok (.tuple #[]) w') : (execOp ev o).run P w = .ok (.value (.tuple #[])) w' := by
  unfold execOp
  simp only [ho, resolve, invoke, builtin, Sem.run_bind, Sem.run_pure, Result.andThen_ok, List.map_toArray, List.map_cons, List.map_nil, hr]

section
variable {W W' : World} {p : DkP} {D : Dk}

theorem ext_setCells (b : Nat) : ∀ (vs : List Value) (o : Nat) (W : World), Ext (fun k => k = b) W (W.setCells b o vs)
  | [], _, W => Ext.refl _ _
  | v :: r, o, W => by
    rw [World.setCells]
    exact ((Ext.refl (fun k => k = b) W).setCell (a := ⟨b, o, none⟩) (.inl rfl) v).trans' (ext_setCells b r (o + 1) _)

theorem DkAt.text (h : DkAt W p D) (i : Nat) (t : List UInt8) (hi : i < D.texts.length) (ht : t.length = 256) : DkAt (W.setCells p.gt (256 * i) (t.map bv)) p { D with texts := D.texts.set i t } ∧ Ext (fun b => b = p.gt) W (W.setCells p.gt (256 * i) (t.map bv)) := by
  have he : Ext (fun b => b = p.gt) W (W.setCells p.gt (256 * i) (t.map bv)) := ext_setCells _ _ _ _
  refine ⟨?_, he⟩
  have hthere : W.there p.gt (256 * i) (t.map bv).length := by
    intro j hj
    refine ⟨?_, h.free _⟩
    obtain ⟨u, hu⟩ : ∃ u, D.texts[i]? = some u := ⟨D.texts[i], by simp⟩
    have hul := h.lens u (List.mem_of_getElem? hu)
    simp only [List.length_map, ht] at hj
    rw [h.rows i u hu j (bv (u[j]'(by omega))) (by rw [List.getElem?_map, List.getElem?_eq_getElem (by omega)]; rfl)]
    rfl
  constructor
  · have := h.cell.ext he h.ne.1
    simpa using this
  · intro j u hu
    by_cases hj : i = j
    · subst hj
      rw [List.getElem?_set_self hi] at hu
      cases hu
      exact World.rangeAt_setCells_same W _ _ _ hthere
    · rw [List.getElem?_set_ne hj] at hu
      have hul := h.lens u (List.mem_of_getElem? hu)
      refine World.rangeAt_setCells_apart (h.rows j u hu) _ _ _ (.inr ?_)
      simp only [List.length_map, ht, hul]
      omega
  · intro o
    rw [World.frozen?_setCells]
    exact h.free o
  · intro u hu
    rcases List.mem_or_eq_of_mem_set hu with hu | hu
    · exact h.lens u hu
    · rw [hu]; exact ht
  · simpa using h.pos
  · simpa using h.most
  · obtain ⟨es, c, hm, hr⟩ := h.bads
    exact ⟨es, c, hm.ext he (Ne.symm h.ne.2.2.2.1), hr⟩
  · obtain ⟨es, c, hm, hr, hv⟩ := h.vers
    refine ⟨es, c, hm.ext he (Ne.symm h.ne.2.2.2.2.1), hr, fun e hm => ?_⟩
    obtain ⟨t, q1, q2, q3, q4, q5⟩ := hv e hm
    exact ⟨t, q1, q2.ext he (fun b hb => by rw [hb]; exact h.low.2.1), q3, by simpa using q4, q5⟩
  · exact h.ne
  · exact h.low
  · exact DkAt.base' h.base he.size
  · exact h.fuse

theorem mdel_has (es : List (Ent Int)) (i k : Int) : mhas (mdel es i) k = (mhas es k && !decide (k = i)) := by
  unfold mhas mdel
  induction es with
  | nil => rfl
  | cons e es ih =>
    by_cases he : i = e.k
    · rw [List.filter_cons_of_neg (by simpa using he), ih]
      by_cases hk : k = i
      · simp [hk]
      · simp [hk, ← he]
    · rw [List.filter_cons_of_pos (by simpa using he), List.any_cons, List.any_cons, ih]
      by_cases hk : k = i
      · subst hk; simp [he]
      · simp [hk]

theorem DkAt.unbad (h : DkAt W p D) (i : Int) {es : List (Ent Int)} {c : Nat} (hr : ∀ k, D.bad k = mhas es k) (hv : ∀ e ∈ es, e.v = .bool true) (hm : MapAt W' p.mb encI (mdel es i) c) (he : Ext (fun b => b = p.mb) W W') : DkAt W' p { D with bad := fun k => D.bad k && !decide (k = i) } where
  cell := h.cell.ext he h.ne.2.1
  rows := fun j u hu => rangeAt_ext (h.rows j u hu) he h.ne.2.2.2.1
  free := fun o => by rw [frozen_ext he h.base.2.1 h.ne.2.2.2.1]; exact h.free o
  lens := h.lens
  pos := h.pos
  most := h.most
  bads := ⟨_, c, hm, fun k => by show (D.bad k && !decide (k = i)) = _; rw [mdel_has, hr k], fun e he => hv e (List.mem_filter.1 he).1⟩
  vers := by
    obtain ⟨es, c, hm, hr, hv⟩ := h.vers
    refine ⟨es, c, hm.ext he (Ne.symm h.ne.2.2.2.2.2), hr, fun e hm => ?_⟩
    obtain ⟨t, q1, q2, q3⟩ := hv e hm
    exact ⟨t, q1, q2.ext he (fun b hb => by rw [hb]; exact h.low.2.2.1), q3⟩
  ne := h.ne
  low := h.low
  base := DkAt.base' h.base he.size
  fuse := h.fuse

theorem DkAt.unver (h : DkAt W p D) (i : Int) {es : List (Ent Int)} {c : Nat} (hr : ∀ k, (D.vers k).isSome = mhas es k) (hv : ∀ e ∈ es, ∃ t, D.vers e.k = some t ∧ VerAt W p.V e.v t ∧ 0 ≤ e.k ∧ e.k < D.texts.length ∧ t.length = 256)
    (hm : MapAt W' p.mv encI (mdel es i) c) (he : Ext (fun b => b = p.mv) W W') : DkAt W' p { D with vers := fun k => if k = i then none else D.vers k } where
  cell := h.cell.ext he h.ne.2.2.1
  rows := fun j u hu => rangeAt_ext (h.rows j u hu) he h.ne.2.2.2.2.1
  free := fun o => by rw [frozen_ext he h.base.2.1 h.ne.2.2.2.2.1]; exact h.free o
  lens := h.lens
  pos := h.pos
  most := h.most
  bads := by obtain ⟨es, c, hm, hr⟩ := h.bads; exact ⟨es, c, hm.ext he h.ne.2.2.2.2.2, hr⟩
  vers := by
    refine ⟨_, c, hm, fun k => ?_, fun e he' => ?_⟩
    · rw [mdel_has, ← hr k]
      by_cases hk : k = i <;> simp [hk]
    · obtain ⟨h1, h2⟩ := List.mem_filter.1 he'
      obtain ⟨t, q1, q2, q3⟩ := hv e h1
      have hne : ¬ e.k = i := fun h => by simp [h] at h2
      exact ⟨t, by simp [hne, q1], q2.ext he (fun b hb => by rw [hb]; exact h.low.2.2.2), q3⟩
  ne := h.ne
  low := h.low
  base := DkAt.base' h.base he.size
  fuse := h.fuse

set_option maxRecDepth 100000 in
set_option maxHeartbeats 1600000 in
theorem disk_Sync1 (h : DkAt W p D) (db : Nat) (bD : Blk W db #[.pointer (some ⟨p.d, 0, none⟩)] 23) (hdb : ¬ p.own db) :
    Calls Try.prog 41 #[.pointer (some ⟨db, 0, none⟩)] W fun e w' => (∃ v, e = .returned v) ∧ DkAt w' p D.synced ∧ Ext (fun b => b = p.gt ∨ b = p.mb ∨ b = p.mv) W w' := by
  obtain ⟨es0, clock, hm0, hes0, hev0⟩ := h.vers
  obtain ⟨hrg, hit0⟩ := run_range_raw (P := Try.prog) hm0 Try.underlying53
  have c0 := bD.cell (o := 0) rfl
  have c2 := h.cell.cell (o := 2) rfl
  obtain ⟨W0, hW0⟩ : ∃ W0, W.alloc (.mapIter (some p.mv) clock #[] clock) = W0 := ⟨_, rfl⟩
  rw [hW0] at hrg hit0
  have b0 : Below W.heap.size W W0 := by rw [← hW0]; exact (Below.refl _ W).alloc (Nat.le_refl _) _
  obtain ⟨hb1, hb2, hb3, hb4, hb5⟩ := h.base
  unfold DkP.own at hdb
  have hbl := bD.lt
  go_enter Try.func41, Try.ntmps41
  go_wp2_with fail
  go_loopw [1] (fun _ wr => ∃ D' seen es, DkAt wr p D' ∧ D'.synced = D.synced ∧ D'.texts.length = D.texts.length ∧ MapAt wr p.mv encI es clock ∧ IterAt wr W.heap.size p.mv clock seen clock ∧ (∀ e ∈ es, e.born ∉ seen) ∧ Ext (fun b => b = p.gt ∨ b = p.mb ∨ b = p.mv) W wr) (fun _ wr => mapLen wr p.mv)
  case atStart => exact ⟨D, #[], es0, h.keep b0, rfl, rfl, hm0.keep b0, hit0, fun e he => by simp, Ext.ofBelow b0⟩
  case round =>
    obtain ⟨D', seen, es, hD, hsy, hle, hm, hit, hns, hx⟩ := hrel
    obtain ⟨es', clock', hm', hes, hev⟩ := hD.vers
    obtain ⟨rfl, rfl⟩ : es' = es ∧ clock' = clock := mapAt_eq encI_inj hm' hm
    rcases run_next_raw (P := Try.prog) hm hit hm.born (by cases es' with | nil => exact .inr (.inl rfl) | cons a l => exact .inr (.inr ⟨a, by simp, hm.born a (by simp)⟩)) 0 with ⟨hall, hr⟩ | ⟨e, he, hn, w1, hr, hit1, hx1⟩
    · have hnil : es' = [] := by
        cases es' with
        | nil => rfl
        | cons a l => exact absurd (hall a (by simp)) (hns a (by simp))
      have hDn : DkAt wr p D.synced := by
        rw [← hsy, Dk.synced_none D' (fun k => by
          have := hes k
          rw [hnil] at this
          cases hk : D'.vers k with
          | none => rfl
          | some t => rw [hk] at this; cases this)]
        exact hD
      go_wp2_with fail
      go_end0
      exact ⟨⟨_, rfl⟩, hDn, hx⟩
    · obtain ⟨t, hvt, ⟨g, cap, hv, hcap, hgB, hrt0⟩, hk0, hkn, htl⟩ := hev e he
      obtain ⟨kk, hkk⟩ := Int.eq_ofNat_of_zero_le hk0
      have hent := run_entry_raw (P := Try.prog) (hm.ext hx1 (by omega)) he hit1
      have hD1 := hD.ext hx1 (by omega) (by omega) (by omega) (by omega) (fun b hb hV => by
        have := hb5 b hV
        omega)
      have hgr : g ≠ W.heap.size := by
        intro hg
        have := hrt0 0 (bv (t[0]'(by omega))) (by rw [List.getElem?_map, List.getElem?_eq_getElem (by omega)]; rfl)
        rw [hg] at this
        simp [World.cell?, show wr.heap[W.heap.size]? = _ from hit] at this
      have hrt : w1.drew.rangeAt g 0 (t.map bv) := (rangeAt_ext hrt0 hx1 hgr : w1.rangeAt g 0 (t.map bv))
      have hxw : Ext (fun b => b = p.gt ∨ b = p.mb ∨ b = p.mv ∨ b = W.heap.size) W w1 := (hx.mono (fun b _ h => by omega)).trans hx1 (fun b hb => .inl (.inr (.inr (.inr hb))))
      have bD1 := bD.ext hxw (by omega)
      have cd1 : w1.drew.cell? ⟨db, 0, none⟩ = some (.pointer (some ⟨p.d, 0, none⟩)) := bD1.cell (o := 0) rfl
      have ct1 : w1.drew.cell? ⟨p.d, 0, none⟩ = some (.slice (some ⟨p.gt, 0, none⟩) D'.texts.length D'.texts.length) := hD1.cell.cell (o := 0) rfl
      rw [hkk, hv] at hr hent
      simp only [encI] at hr hent
      have hkn' : kk < D'.texts.length := by omega
      obtain ⟨n, hn'⟩ : ∃ n, n = D'.texts.length := ⟨_, rfl⟩
      rw [← hn'] at ct1 hkn'
      have Hn := hid hn'
      have hw0 : IntKind.i64.wrap 0 = 0 := by rw [IntKind.wrap_i64]; rfl
      clear hn'
      clear hev0 hes0 hev hm0 hit0
      go_wp2_with fail
      refine wp_region_tail 12 rfl Stays (fun i v x => match i with
          | 0 => v = .pointer (some ⟨p.d, 0, none⟩)
          | 1 => v = .pointer (some ⟨p.d, 0, none⟩)
          | 2 => v = .pointer (some ⟨p.d, 0, none⟩)
          | 3 => v = .slice (some ⟨p.gt, 0, none⟩) n n
          | 4 => v = .int .i64 (kk : Int)
          | 5 => v = .slice (some ⟨g, 0, none⟩) 1 cap
          | 6 => v = .slice (some ⟨g, 0, none⟩) 1 cap
          | 7 => v = .int .i64 1
          | 8 => v = .int .i64 0
          | 9 => v = .pointer (some ⟨g, 0, none⟩)
          | 10 => v = .agg (t.map bv).toArray
          | 11 => v = .pointer (some ⟨p.gt, 256 * kk, none⟩)
          | _ => True) (by kernel_rfl) (Stays.refl _) Stays.trans ?stab ?steps ?fin
      case stab =>
        intro i v x y hg h
        match i with
        | 0 | 1 | 2 | 3 | 4 | 5 | 6 | 7 | 8 | 9 | 10 | 11 => exact h
        | n + 12 => trivial
      case steps =>
        simp only [List.take_succ_cons, List.take_zero]
        refine ⟨?_, ?_, ?_, ?_, ?_, ?_, ?_, ?_, ?_, ?_, ?_, ?_, trivial⟩
        · intro a x hA
          have t0 := hA.at_ 0 (by rfl) rfl
          have hxe : x = w1.drew := hA.grow
          have cD : x.cell? ⟨db, 0, none⟩ = some (.pointer (some ⟨p.d, 0, none⟩)) := by rw [hxe]; exact cd1
          have c0 : x.cell? ⟨p.d, 0, none⟩ = some (.slice (some ⟨p.gt, 0, none⟩) n n) := by rw [hxe]; exact ct1
          clear hxe
          refine step_value (w' := x) (v := .pointer (some ⟨p.d, 0, none⟩)) ?_ (Stays.refl _) ?_
          · go_simp
          · rfl
        · intro a x hA
          have t13 : a.tmps[13]?.getD undef = .pointer (some ⟨p.d, 0, none⟩) := hA.dep_ ⟨0, .data⟩ (by simp) _ 13 rfl rfl
          refine step_value (w' := x) (v := .pointer (some ⟨p.d, 0, none⟩)) ?_ (Stays.refl _) ?_
          · go_simp
          · rfl
        · intro a x hA
          have t14 : a.tmps[14]?.getD undef = .pointer (some ⟨p.d, 0, none⟩) := hA.dep_ ⟨1, .data⟩ (by simp) _ 14 rfl rfl
          refine step_value (w' := x) (v := .pointer (some ⟨p.d, 0, none⟩)) ?_ (Stays.refl _) ?_
          · go_simp
          · rfl
        · intro a x hA
          have t15 : a.tmps[15]?.getD undef = .pointer (some ⟨p.d, 0, none⟩) := hA.dep_ ⟨2, .data⟩ (by simp) _ 15 rfl rfl
          have hxe : x = w1.drew := hA.grow
          have cD : x.cell? ⟨db, 0, none⟩ = some (.pointer (some ⟨p.d, 0, none⟩)) := by rw [hxe]; exact cd1
          have c0 : x.cell? ⟨p.d, 0, none⟩ = some (.slice (some ⟨p.gt, 0, none⟩) n n) := by rw [hxe]; exact ct1
          clear hxe
          refine step_value (w' := x) (v := .slice (some ⟨p.gt, 0, none⟩) n n) ?_ (Stays.refl _) ?_
          · go_simp
          · rfl
        · intro a x hA
          have t1 := hA.at_ 1 (by rfl) rfl
          refine step_value (w' := x) (v := .int .i64 (kk : Int)) ?_ (Stays.refl _) ?_
          · go_simp
          · rfl
        · intro a x hA
          have t2 := hA.at_ 2 (by rfl) rfl
          refine step_value (w' := x) (v := .slice (some ⟨g, 0, none⟩) 1 cap) ?_ (Stays.refl _) ?_
          · go_simp
          · rfl
        · intro a x hA
          have t2 := hA.at_ 2 (by rfl) rfl
          refine step_value (w' := x) (v := .slice (some ⟨g, 0, none⟩) 1 cap) ?_ (Stays.refl _) ?_
          · go_simp
          · rfl
        · intro a x hA
          have t19 : a.tmps[19]?.getD undef = .slice (some ⟨g, 0, none⟩) 1 cap := hA.dep_ ⟨6, .data⟩ (by simp) _ 19 rfl rfl
          refine step_value (w' := x) (v := .int .i64 1) ?_ (Stays.refl _) ?_
          · go_simp
          · rfl
        · intro a x hA
          have t20 : a.tmps[20]?.getD undef = .int .i64 1 := hA.dep_ ⟨7, .data⟩ (by simp) _ 20 rfl rfl
          refine step_value (w' := x) (v := .int .i64 0) ?_ (Stays.refl _) ?_
          · go_simp
          · rfl
        · intro a x hA
          have t18 : a.tmps[18]?.getD undef = .slice (some ⟨g, 0, none⟩) 1 cap := hA.dep_ ⟨5, .data⟩ (by simp) _ 18 rfl rfl
          have t21 : a.tmps[21]?.getD undef = .int .i64 0 := hA.dep_ ⟨8, .data⟩ (by simp) _ 21 rfl rfl
          refine step_value (w' := x) (v := .pointer (some ⟨g, 0, none⟩)) ?_ (Stays.refl _) ?_
          · go_simp
          · rfl
        · intro a x hA
          have t22 : a.tmps[22]?.getD undef = .pointer (some ⟨g, 0, none⟩) := hA.dep_ ⟨9, .data⟩ (by simp) _ 22 rfl rfl
          have hxe : x = w1.drew := hA.grow
          have cD : x.cell? ⟨db, 0, none⟩ = some (.pointer (some ⟨p.d, 0, none⟩)) := by rw [hxe]; exact cd1
          have c0 : x.cell? ⟨p.d, 0, none⟩ = some (.slice (some ⟨p.gt, 0, none⟩) n n) := by rw [hxe]; exact ct1
          clear hxe
          have hra : x.rangeAt g 0 (t.map bv) := by have hxe : x = w1.drew := hA.grow; rw [hxe]; exact hrt
          have hld := run_loadAt_mid (P := Try.prog) x g 0 78 (t.map bv) _ hra Try.underlying78 rfl (by rw [List.length_map, htl]; exact size_text)
          refine step_value (w' := x) (v := .agg (t.map bv).toArray) (exec_load rfl (by
            have e22 : a.eval (.tmp 22) = .pointer (some ⟨g, 0, none⟩) := by simp [go_sem, t22]
            rw [e22]; exact hld)) (Stays.refl _) ?_
          rfl
        · intro a x hA
          have t16 : a.tmps[16]?.getD undef = .slice (some ⟨p.gt, 0, none⟩) n n := hA.dep_ ⟨3, .data⟩ (by simp) _ 16 rfl rfl
          have t17 : a.tmps[17]?.getD undef = .int .i64 (kk : Int) := hA.dep_ ⟨4, .data⟩ (by simp) _ 17 rfl rfl
          refine step_value (w' := x) (v := .pointer (some ⟨p.gt, 256 * kk, none⟩)) ?_ (Stays.refl _) ?_
          · go_simp
          · rfl
      case fin =>
        intro y W' hg hV
        simp only [List.take_succ_cons, List.take_zero, AllVals] at hV
        obtain ⟨u0, u1, u2, u3, u4, u5, u6, u7, u8, u9, u10, u11, _⟩ := hV
        simp only [List.take_succ_cons, List.take_zero, List.drop_succ_cons, List.drop_zero, putAll, Act.put, List.setIfInBounds_toArray, List.set_cons_zero, List.set_cons_succ]
        obtain rfl : W' = w1.drew := hg
        rw [u10, u11]
        clear u0 u1 u2 u3 u4 u5 u6 u7 u8 u9 u10 u11
        have hD1' : DkAt w1.drew p D' := hD1.keep ((Below.refl _ w1).drew)
        have hkn2 : kk < D'.texts.length := by rw [← Hn.out]; exact hkn'
        obtain ⟨hD2, x2⟩ := hD1'.text kk t hkn2 htl
        have hthere : w1.drew.there p.gt (256 * kk) (t.map bv).toArray.size := by
          intro j hj
          refine ⟨?_, hD1'.free _⟩
          obtain ⟨u, hu⟩ : ∃ u, D'.texts[kk]? = some u := ⟨D'.texts[kk], by simp⟩
          have hul := hD1'.lens u (List.mem_of_getElem? hu)
          simp only [List.size_toArray, List.length_map, htl] at hj
          rw [hD1'.rows kk u hu j (bv (u[j]'(by omega))) (by rw [List.getElem?_map, List.getElem?_eq_getElem (by omega)]; rfl)]
          rfl
        have hst := run_storeAt_mid (P := Try.prog) w1.drew p.gt (256 * kk) 78 (t.map bv).toArray hthere (by rw [List.size_toArray, List.length_map, htl]; exact size_text) (by
          rw [Array.all_eq_true_iff_forall_mem]
          intro v hv
          simp only [List.mem_toArray, List.mem_map] at hv
          obtain ⟨b, _, rfl⟩ := hv
          rfl)
        simp only [List.toList_toArray] at hst
        refine wpList_skip rfl (exec_store rfl (by simpa [go_sem] using hst)) ?_
        have hm2 : MapAt _ p.mv encI es' clock' := ((hm.ext hx1 (by omega)).keep ((Below.refl _ w1).drew)).ext x2 (Ne.symm hD1.ne.2.2.2.2.1)
        have hit2 : IterAt (w1.drew.setCells p.gt (256 * kk) (t.map bv)) W.heap.size p.mv clock' (seen.push e.born) clock' := by
          have := x2.block W.heap.size (Nat.lt_of_lt_of_le (Array.getElem?_eq_some_iff.1 hit1).1 (Nat.le_refl _)) (by omega)
          exact this.trans hit1
        have hxw2 := (hxw.drew).trans x2 (fun b hb => .inl (.inl hb))
        generalize w1.drew.setCells p.gt (256 * kk) (t.map bv) = w2 at *
        clear hst hthere hD1' hD1 hrt cd1 ct1 hr hent hrt0
        obtain ⟨esb, cb, hmb, hrb, hvb⟩ := hD2.bads
        obtain ⟨w3, hdel3, hmb3, x3⟩ := run_delete_raw (P := Try.prog) (keyLaw_int Try.underlying3) hmb (M := 52) (X := 3) (ty := 0) Try.underlying52 (kk : Int)
        have hD3 := hD2.unbad (kk : Int) hrb hvb hmb3 x3
        have hm3 := hm2.ext x3 (Ne.symm hD2.ne.2.2.2.2.2)
        have hit3 : IterAt w3 W.heap.size p.mv clock' (seen.push e.born) clock' := (x3.block W.heap.size (Array.getElem?_eq_some_iff.1 hit2).1 (by omega)).trans hit2
        obtain ⟨w4, hdel4, hm4, x4⟩ := run_delete_raw (P := Try.prog) (keyLaw_int Try.underlying3) hm3 (M := 53) (X := 3) (ty := 0) Try.underlying53 (kk : Int)
        obtain ⟨es3, c3, hm3', hes3, hev3⟩ := hD3.vers
        obtain ⟨rfl, rfl⟩ : es3 = es' ∧ c3 = clock' := mapAt_eq encI_inj hm3' hm3
        have hD4 := hD3.unver (kk : Int) hes3 hev3 hm4 x4
        have hit4 : IterAt w4 W.heap.size p.mv c3 (seen.push e.born) c3 := (x4.block W.heap.size (Array.getElem?_eq_some_iff.1 hit3).1 (by omega)).trans hit3
        have hxw4 := (hxw2.trans x3 (fun b hb => .inl (.inr (.inl hb)))).trans x4 (fun b hb => .inl (.inr (.inr (.inl hb))))
        have bD2 := bD.ext hxw2 (by omega)
        have bD3 := bD2.ext x3 (by omega)
        have cd2 := bD2.cell (o := 0) rfl
        have cd3 := bD3.cell (o := 0) rfl
        have cm2 := hD2.cell.cell (o := 1) rfl
        have cm3 := hD3.cell.cell (o := 2) rfl
        clear hes3 hev3 hrb hvb hmb hmb3
        simp only [encI] at hdel3 hdel4
        go_wp2_with fail
        go_roundw
        case rel =>
          refine ⟨D'.keep1 e.k t, seen.push e.born, mdel es3 (kk : Int), ?_, ?_, ?_, hm4, hit4, ?_, ?_⟩
          · rw [hkk]
            exact hD4
          · rw [hkk, Dk.keep1_synced D' kk t (by rw [← hkk]; exact hvt)]
            exact hsy
          · simp [Dk.keep1, hle]
          · intro e' he'
            obtain ⟨h1, h2⟩ := List.mem_filter.1 he'
            rw [Array.mem_push]
            rintro (h3 | h3)
            · exact hns e' h1 h3
            · have hk : e' = e := by
                exact nodup_map_inj hm.borns h1 he h3
              subst hk
              simp [hkk] at h2
          · exact hxw4.mono (fun b hbl h => by
              rcases h with h | h | h | h
              · exact .inl h
              · exact .inr (.inl h)
              · exact .inr (.inr h)
              · omega)
        case measure =>
          rw [hm4.len, hm.len]
          unfold mdel
          refine List.length_filter_lt_length_iff_exists.2 ⟨e, he, by simp [hkk]⟩

set_option maxRecDepth 100000 in
set_option maxHeartbeats 1600000 in
theorem disk_Sync (h : DkAt W p D) (hg : D.goes = true) :
    Calls Try.prog 20 #[.pointer (some ⟨p.d, 0, none⟩)] W fun e w' => e = .returned (.int .i64 0) ∧ DkAt w' p D.spent.synced ∧ Ext (fun b => b = p.d ∨ b = p.gt ∨ b = p.mb ∨ b = p.mv) W w' := by
  obtain ⟨W1, hW1⟩ : ∃ W1, W.alloc (.cells #[.pointer (some ⟨p.d, 0, none⟩)] 23) = W1 := ⟨_, rfl⟩
  have b1 : Below W.heap.size W W1 := by rw [← hW1]; exact (Below.refl _ W).alloc (Nat.le_refl _) _
  have q0 : Blk W1 W.heap.size #[.pointer (some ⟨p.d, 0, none⟩)] 23 := by rw [← hW1]; exact Blk.new W _ _
  have c0 := q0.cell (o := 0) rfl
  have hN := h.keep b1
  have hop := disk_operation hN hg 41 #[.pointer (some ⟨W.heap.size, 0, none⟩)] (fun args w => rfl)
    (fun w' => DkAt w' p D.spent.synced ∧ Ext (fun b => b = p.d ∨ b = p.gt ∨ b = p.mb ∨ b = p.mv) W w') (fun W2 h2 x2 => by
      obtain ⟨hb1, hb2, hb3, hb4, hb5⟩ := h.base
      have e2 : Ext (fun b => b = p.d ∨ b = p.gt ∨ b = p.mb ∨ b = p.mv) W W2 := (Ext.ofBelow b1 : Ext (fun b => b = p.d ∨ b = p.gt ∨ b = p.mb ∨ b = p.mv) W W1).trans x2 (fun b hb => .inl (.inl hb))
      refine (disk_Sync1 h2 W.heap.size (q0.ext x2 (by omega)) (by unfold DkP.own; omega)).mono ?_
      rintro e w' ⟨⟨v, rfl⟩, hd, hx⟩
      exact ⟨⟨v, rfl⟩, hd, e2.trans hx (fun b hb => .inl (.inr hb))⟩)
  go_enter Try.func20, Try.ntmps20
  go_wp2_with fail
  refine (disk_none hN).mono ?_
  rintro e W1 ⟨rfl, rfl⟩
  go_wp2_with fail
  refine hop.mono ?_
  rintro e w' ⟨rfl, hd, hx⟩
  go_wp2_with fail
  go_ret
  exact ⟨rfl, hd, hx⟩

set_option maxRecDepth 100000 in
set_option maxHeartbeats 1600000 in
theorem disk_Sync_fails (h : DkAt W p D) (hg : D.goes = false) :
    Calls Try.prog 20 #[.pointer (some ⟨p.d, 0, none⟩)] W fun e w' => e = .returned (.int .i64 8) ∧ DkAt w' p D.fail ∧ Ext (fun b => b = p.d) W w' := by
  obtain ⟨W1, hW1⟩ : ∃ W1, W.alloc (.cells #[.pointer (some ⟨p.d, 0, none⟩)] 23) = W1 := ⟨_, rfl⟩
  have b1 : Below W.heap.size W W1 := by rw [← hW1]; exact (Below.refl _ W).alloc (Nat.le_refl _) _
  have q0 : Blk W1 W.heap.size #[.pointer (some ⟨p.d, 0, none⟩)] 23 := by rw [← hW1]; exact Blk.new W _ _
  have c0 := q0.cell (o := 0) rfl
  have hN := h.keep b1
  have hop := disk_operation_fails hN hg 41 #[.pointer (some ⟨W.heap.size, 0, none⟩)]
  go_enter Try.func20, Try.ntmps20
  go_wp2_with fail
  refine (disk_none hN).mono ?_
  rintro e W1 ⟨rfl, rfl⟩
  go_wp2_with fail
  refine hop.mono ?_
  rintro e w' ⟨rfl, hd, hx⟩
  go_wp2_with fail
  go_ret
  exact ⟨rfl, hd, (Ext.ofBelow b1 : Ext (fun b => b = p.d) W W1).trans' hx⟩
end

end Go.Proofs.Ytpkaepmmkojdaaa
