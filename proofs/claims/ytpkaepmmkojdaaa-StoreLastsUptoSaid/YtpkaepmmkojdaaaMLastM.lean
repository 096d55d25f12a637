import Derived.Test.YtpkaepmmkojdaaaMDiskB
import Derived.Test.YtpkaepmmkojdaaaMDoneP
import Derived.Test.YtpkaepmmkojdaaaDone
import Derived.Test.YtpkaepmmkojdaaaMNextA
import Derived.Test.YtpkaepmmkojdaaaOpenG
import Derived.Test.YtpkaepmmkojdaaaMSrt
/-! Package disk: Cut. -/
namespace Go.Proofs.Ytpkaepmmkojdaaa
open Go.RowKit

def Dk.cut (D : Dk) (n : Int) : Dk := if D.off then D else { D with fuse := max n (-1) }
section
variable {W : World} {p : DkP} {D : Dk}
set_option maxHeartbeats 800000 in
theorem disk_Cut (h : DkAt W p D) (n : Int) (hn : n ≤ 9223372036854775807) :
    Calls Try.prog 8 #[.pointer (some ⟨p.d, 0, none⟩), .int .i64 n] W fun e w' => (∃ x, e = .returned x) ∧ DkAt w' p (D.cut n) ∧ Ext (fun b => b = p.d) W w' := by
  have c3 := h.cell.cell (o := 3) rfl
  have c4 := h.cell.cell (o := 4) rfl
  have f4 := h.cell.free 4
  have HN := hid (disk_none h)
  cases hoff : D.off
  · rw [hoff] at c3
    obtain ⟨m, hm⟩ : ∃ m, max n (-1) = m := ⟨_, rfl⟩
    have hx : Ext (fun b => b = p.d) W (W.setCell ⟨p.d, 4, none⟩ (.int .i64 m)) := (Ext.refl (fun b => b = p.d) W).setCell (a := ⟨p.d, 4, none⟩) (.inl rfl) _
    have hD : DkAt (W.setCell ⟨p.d, 4, none⟩ (.int .i64 m)) p (D.cut n) := by
      unfold Dk.cut
      rw [if_neg (by rw [hoff]; decide), hm]
      exact h.recell hx D.off m (by omega) (by have := h.cell.set (o := 4) (.int .i64 m); simpa using this)
    have HD := hid (And.intro hD hx)
    clear h hD hx hoff
    go_enter Try.func8, Try.ntmps8
    go_wp2_with fail
    refine HN.out.mono ?_
    rintro e Wx ⟨rfl, hw⟩
    rw [hw]
    clear hw Wx
    go_wp2_with fail
    all_goals (first
      | (go_end0; exact ⟨⟨_, rfl⟩, HD.out⟩)
      | (obtain rfl : m = -1 := by omega
         go_end0; exact ⟨⟨_, rfl⟩, HD.out⟩)
      | (have e : m = n := by omega
         rw [e] at HD
         go_end0; exact ⟨⟨_, rfl⟩, HD.out⟩))
  · rw [hoff] at c3
    have hD : D.cut n = D := by unfold Dk.cut; rw [if_pos hoff]
    have HD := hid (show DkAt W p (D.cut n) by rw [hD]; exact h)
    clear h hD hoff
    go_enter Try.func8, Try.ntmps8
    go_wp2_with fail
    refine HN.out.mono ?_
    rintro e Wx ⟨rfl, hw⟩
    rw [hw]
    clear hw Wx
    go_wp2_with fail
    go_end0
    exact ⟨⟨_, rfl⟩, HD.out, Ext.refl _ _⟩
end
end Go.Proofs.Ytpkaepmmkojdaaa

/-! StoreLasts: what lies in memory; one step after the other. -/
namespace Go.Proofs.Ytpkaepmmkojdaaa
open Go.RowKit
theorem owned_is {w : World} {base : Nat} {t : TypeId} {v : Value} {l : List Int} (h : OwnI w base t v l) : Is w v l := by
  rcases h.2 with ⟨rfl, h0⟩ | ⟨g, cap, cur, rfl, _, hg, hc, hm, _, ht⟩
  · have : l = [] := List.eq_nil_of_length_eq_zero h0
    subst this
    exact ⟨none, 0, rfl, fun i x h => by simp at h⟩
  · refine ⟨_, _, rfl, fun i x hi => ⟨g, 0, rfl, ?_⟩⟩
    have hu : (l.map iv)[i]? = some (iv x) := by simp [hi]
    rw [← ht, List.getElem?_take] at hu
    split at hu
    · simp [World.cell?, hg]
      simpa using hu
    · cases hu
/-- A store on its disk, and the two rows of what was told. -/
structure LastAt (W0 w : World) (pd : Nat) (q : StP) (S : St) (D : Dk) (TS TM : Nat) (cs cm : Array Value) : Prop where
  st : StAt w q S D
  d : q.p.d = pd
  sure : Blk w TS cs 39
  may : Blk w TM cm 39
  out : ¬ q.all TS ∧ ¬ q.all TM ∧ TS ≠ TM
  new : ∀ b, q.all b → W0.heap.size ≤ b
  newT : W0.heap.size ≤ TS ∧ W0.heap.size ≤ TM
  below : Below W0.heap.size W0 w
section
variable {W0 w w' : World} {pd : Nat} {q q' : StP} {S S' : St} {D D' : Dk} {TS TM : Nat} {cs cm : Array Value}
theorem LastAt.keep (h : LastAt W0 w pd q S D TS TM cs cm) (hb : Below w.heap.size w w') : LastAt W0 w' pd q S D TS TM cs cm :=
  ⟨h.st.keep hb, h.d, h.sure.keep hb, h.may.keep hb, h.out, h.new, h.newT, h.below.trans (hb.mono h.below.size)⟩
theorem LastAt.size (h : LastAt W0 w pd q S D TS TM cs cm) : W0.heap.size ≤ w.heap.size := h.below.size
theorem LastAt.went (h : LastAt W0 w pd q S D TS TM cs cm) (h1 : StAt w' q' S' D') (hw : Went q q' w.heap.size) (hx : Ext q.own w w') : LastAt W0 w' pd q' S' D' TS TM cs cm := by
  have hlt := h.sure.lt
  have hlm := h.may.lt
  have hs := h.below.size
  refine ⟨h1, hw.2.2.2.1.2.trans h.d, h.sure.ext hx (fun hc => h.out.1 (.inl hc)), h.may.ext hx (fun hc => h.out.2.1 (.inl hc)), ⟨fun hc => ?_, fun hc => ?_, h.out.2.2⟩, fun b hb => ?_, h.newT, ?_⟩
  · rcases hw.2.2.2.2 _ hc with h9 | h9
    · exact h.out.1 h9
    · omega
  · rcases hw.2.2.2.2 _ hc with h9 | h9
    · exact h.out.2.1 h9
    · omega
  · rcases hw.2.2.2.2 b hb with h9 | h9
    · exact h.new b h9
    · omega
  · exact h.below.trans (hx.belowOf hs (fun b hb hc => by have := h.new b (.inl hc); omega))
theorem LastAt.setSure (h : LastAt W0 w pd q S D TS TM cs cm) (c : Array Value) : LastAt W0 (w.setRow TS c) pd q S D TS TM c cm := by
  have hx : Ext (fun b => b = TS) w (w.setRow TS c) := (Ext.refl (fun b => b = TS) w).grown (setRow_grown _ _ _) (fun k h => by cases h; exact .inl rfl)
  exact ⟨h.st.ext hx (fun b e hq => h.out.1 (e ▸ hq)), h.d, h.sure.setRow c, h.may.setRowOther (Ne.symm h.out.2.2) c, h.out, h.new, h.newT, h.below.trans (hx.belowOf h.below.size (fun b hb e => by have := h.newT.1; omega))⟩
theorem LastAt.setMay (h : LastAt W0 w pd q S D TS TM cs cm) (c : Array Value) : LastAt W0 (w.setRow TM c) pd q S D TS TM cs c := by
  have hx : Ext (fun b => b = TM) w (w.setRow TM c) := (Ext.refl (fun b => b = TM) w).grown (setRow_grown _ _ _) (fun k h => by cases h; exact .inl rfl)
  exact ⟨h.st.ext hx (fun b e hq => h.out.2.1 (e ▸ hq)), h.d, h.sure.setRowOther h.out.2.2 c, h.may.setRow c, h.out, h.new, h.newT, h.below.trans (hx.belowOf h.below.size (fun b hb e => by have := h.newT.2; omega))⟩
theorem LawAt.quiet {es : List Entv} {oe : Option Entv} (h : LawAt D es S oe) : Quiet D := by
  intro hoff
  have hp := h.good.pends
  cases oe with
  | none => exact hp.2.2
  | some e => rw [hp.1] at hoff; cases hoff
theorem LawAt.cut {es : List Entv} {oe : Option Entv} (h : LawAt D es S oe) (n : Int) : LawAt (D.cut n) es S oe := by
  unfold Dk.cut
  split
  · exact h
  · have hg := h.good
    have hk := hg.kept
    refine ⟨⟨⟨hk.ok, hk.st, Dk.lays_same hk.lays (fun k _ => ⟨rfl, rfl⟩), hk.rest, hk.fit, hk.most⟩, ?_⟩, by show -1 ≤ max n (-1); omega, h.parts, h.low, h.mlow⟩
    have hp := hg.pends
    cases oe with
    | none => exact hp
    | some e => exact hp
theorem last_cut (h : LastAt W0 w pd q S D TS TM cs cm) (n : Int) (hn : n ≤ 9223372036854775807) :
    Calls Try.prog 8 #[.pointer (some ⟨pd, 0, none⟩), .int .i64 n] w fun e w' => (∃ x, e = .returned x) ∧ LastAt W0 w' pd q S (D.cut n) TS TM cs cm := by
  have hc := disk_Cut h.st.disk n hn
  rw [h.d] at hc
  refine hc.mono ?_
  rintro e w' ⟨hx, hD, hE⟩
  have hE' : Ext q.p.own w w' := hE.mono (fun b _ hb => .inl (by rw [h.d]; exact hb))
  have hlen : (D.cut n).texts.length = D.texts.length := by unfold Dk.cut; split <;> rfl
  have hS := h.st.disk_change q.p.V hE' (by exact hD) hlen (fun b hb => .inl hb)
  exact ⟨hx, h.went hS ⟨rfl, rfl, rfl, ⟨rfl, rfl⟩, fun b hb => .inl hb⟩ (hE'.mono (fun b _ hb => .inr (.inr (.inr hb))))⟩
/-- Behind a crash, ahead of Open. -/
structure CrashAt (W0 w : World) (pd : Nat) (p : DkP) (D : Dk) (TS TM : Nat) (cs cm : Array Value) : Prop where
  disk : DkAt w p D
  d : p.d = pd
  sure : Blk w TS cs 39
  may : Blk w TM cm 39
  out : ¬ p.all TS ∧ ¬ p.all TM ∧ TS ≠ TM
  new : ∀ b, p.all b → W0.heap.size ≤ b
  newT : W0.heap.size ≤ TS ∧ W0.heap.size ≤ TM
  below : Below W0.heap.size W0 w
theorem last_crash (h : LastAt W0 w pd q S D TS TM cs cm) (v : Value) (ch : List Int) (hv : Is w v ch) (hvo : ∀ g, v.ownBlock = some g → ¬ q.p.own g) (hl : ch.length ≤ 9223372036854775807) :
    Calls Try.prog 9 #[.pointer (some ⟨pd, 0, none⟩), v] w fun e w' => (∃ x, e = .returned x) ∧ ∃ L, L.Nodup ∧ (∀ k, k ∈ L ↔ (D.vers k).isSome = true) ∧ CrashAt W0 w' pd q.p (D.crashed L ch) TS TM cs cm ∧ Ext q.p.own w w' := by
  have hc := disk_Crash h.st.disk v ch hv hvo hl
  rw [h.d] at hc
  refine hc.mono ?_
  rintro e w' ⟨hx, L, _, h1, h2, hD, hE⟩
  have hpq : ∀ b, q.p.all b → q.all b := fun b hb => hb.elim (fun h => .inl (.inr (.inr (.inr h)))) (fun h => .inr (.inr h))
  refine ⟨hx, L, h1, h2, ⟨hD, h.d, h.sure.ext hE (fun hc => h.out.1 (.inl (.inr (.inr (.inr hc))))), h.may.ext hE (fun hc => h.out.2.1 (.inl (.inr (.inr (.inr hc))))), ⟨fun hc => h.out.1 (hpq _ hc), fun hc => h.out.2.1 (hpq _ hc), h.out.2.2⟩, fun b hb => h.new b (hpq b hb), h.newT, ?_⟩, hE⟩
  exact h.below.trans (hE.belowOf h.below.size (fun b hb hc => by have := h.new b (.inl (.inr (.inr (.inr hc)))); omega))
theorem last_open {p : DkP} (h : CrashAt W0 w pd p D TS TM cs cm) (hoff : D.off = false) (hfu : D.fuse = -1) (hvs : ∀ i, D.vers i = none) (hsmall : D.small D.texts.length St.fresh) :
    Calls Try.prog 5 #[.pointer (some ⟨pd, 0, none⟩)] w fun e w' => ∃ q, e = .returned (.tuple #[.pointer (some ⟨q.s, 0, none⟩), .int .i64 0]) ∧ LastAt W0 w' pd q D.openS D.openD TS TM cs cm ∧ Ext p.own w w' := by
  have hc := store_Open h.disk hoff hfu hvs hsmall
  rw [h.d] at hc
  refine hc.mono ?_
  rintro e w' ⟨q, rfl, hS, hE, ho, hd, h1, h2, h3, h4, h5⟩
  have hlt := h.sure.lt
  have hlm := h.may.lt
  have hs := h.below.size
  have hall : ∀ b, q.all b → p.all b ∨ w.heap.size ≤ b := by
    rintro b ((hb | hb | hb | hb) | hb | hb)
    · exact .inr (by omega)
    · exact .inr (by omega)
    · exact .inr (by omega)
    · rw [ho] at hb; exact .inl (.inl hb)
    · exact .inr (h4 b hb)
    · exact (h5 b hb).imp (fun h => .inr h) id
  refine ⟨q, rfl, ⟨hS, hd.trans h.d, h.sure.ext hE (fun hc => h.out.1 (.inl hc)), h.may.ext hE (fun hc => h.out.2.1 (.inl hc)), ⟨fun hc => ?_, fun hc => ?_, h.out.2.2⟩, fun b hb => ?_, h.newT, ?_⟩, hE⟩
  · rcases hall _ hc with h9 | h9
    · exact h.out.1 h9
    · omega
  · rcases hall _ hc with h9 | h9
    · exact h.out.2.1 h9
    · omega
  · rcases hall b hb with h9 | h9
    · exact h.new b h9
    · omega
  · exact h.below.trans (hE.belowOf hs (fun b hb hc => by have := h.new b (.inl hc); omega))
theorem LastAt.row (h : LastAt W0 w pd q S D TS TM cs cm) (g : Nat) (c : Array Value) (h1 : ¬ q.all g) (h2 : TS ≠ g ∧ TM ≠ g) (h3 : W0.heap.size ≤ g) : LastAt W0 (w.setRow g c) pd q S D TS TM cs cm := by
  have hx : Ext (fun b => b = g) w (w.setRow g c) := (Ext.refl (fun b => b = g) w).grown (setRow_grown _ _ _) (fun k h => by cases h; exact .inl rfl)
  exact ⟨h.st.ext hx (fun b e hq => h1 (e ▸ hq)), h.d, h.sure.setRowOther h2.1 c, h.may.setRowOther h2.2 c, h.out, h.new, h.newT, h.below.trans (hx.belowOf h.below.size (fun b hb e => by have e2 : b = g := e; omega))⟩
theorem last_call (h : LastAt W0 w pd q S D TS TM cs cm) (hq : Quiet D) (o : Opr) (ho0 : OprOk o) (bv lv : Value) (hb : BsW w bv o.b) :
    Calls Try.prog 10 #[.pointer (some ⟨q.s, 0, none⟩), o.val bv lv] w fun e w' => e = .returned (.int .i64 (callP S D o).1) ∧ ∃ q', q'.s = q.s ∧ LastAt W0 w' pd q' (callP S D o).2.1 (callP S D o).2.2 TS TM cs cm ∧ Ext q.own w w' := by
  refine (law_callP h.st hq o ho0 bv lv hb).mono ?_
  rintro e w' ⟨rfl, ⟨q', h1, h2⟩, hx⟩
  exact ⟨rfl, q', h2.1, h.went h1 h2 hx, hx⟩
end
end Go.Proofs.Ytpkaepmmkojdaaa
