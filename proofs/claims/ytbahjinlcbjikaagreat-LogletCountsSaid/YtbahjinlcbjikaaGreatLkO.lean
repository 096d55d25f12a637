import Derived.Test.YtbahjinlcbjikaaGreatMLLgC
/-! A link that lies from a world on, beside blocks that it does not touch; and what is done with it. -/
namespace Go.Proofs.YtbahjinlcbjikaaGreat
open Go.RowKit

/-- The link L holds s; the blocks O are none of its. -/
structure LkO (W w : World) (L : Nat) (s : LkS) (O : Nat → Prop) : Prop where
  below : Below W.heap.size W w
  lk : ∃ p, LkAt w L p s ∧ ∀ b, p.all L b → ¬ O b ∧ W.heap.size ≤ b
  small : ∀ b, O b → b < w.heap.size
abbrev notO (O : Nat → Prop) (b : Nat) : Prop := ¬ O b
section
variable {W w w2 : World} {L : Nat} {s : LkS} {O O' : Nat → Prop}
theorem LkO.size (h : LkO W w L s O) : W.heap.size ≤ w.heap.size := h.below.size
theorem LkO.sub (h : LkO W w L s O) (ho : ∀ b, O' b → O b) : LkO W w L s O' := by
  obtain ⟨h1, ⟨p, h2, h3⟩, h4⟩ := h
  exact ⟨h1, ⟨p, h2, fun b hb => ⟨fun hc => (h3 b hb).1 (ho b hc), (h3 b hb).2⟩⟩, fun b hb => h4 b (ho b hb)⟩
/-- More was laid; what is laid anew is none of the link's. -/
theorem LkO.more (h : LkO W w L s O) (hb : Below w.heap.size w w2) (ho : ∀ b, O' b → b < w2.heap.size ∧ (O b ∨ w.heap.size ≤ b)) : LkO W w2 L s O' := by
  obtain ⟨h1, ⟨p, h2, h3⟩, h4⟩ := h
  refine ⟨h1.trans (hb.mono h1.size), ⟨p, h2.keep hb, fun b hbb => ⟨fun hc => ?_, (h3 b hbb).2⟩⟩, fun b hb => (ho b hb).1⟩
  rcases (ho b hc).2 with h5 | h5
  · exact (h3 b hbb).1 h5
  · have := h2.size hbb; omega
theorem LkO.keep (h : LkO W w L s O) (hb : Below w.heap.size w w2) : LkO W w2 L s O := h.more hb (fun b hbb => ⟨Nat.lt_of_lt_of_le (h.small b hbb) hb.size, .inl hbb⟩)
/-- The arguments are none of the link's. -/
theorem LkO.args (h : LkO W w L s O) : LkO W w L s (fun b => O b ∨ b < W.heap.size) := by
  have hs := h.size
  obtain ⟨h1, ⟨p, h2, h3⟩, h4⟩ := h
  refine ⟨h1, ⟨p, h2, fun b hb => ⟨fun hc => ?_, (h3 b hb).2⟩⟩, fun b hb => hb.elim (h4 b) (fun h => by omega)⟩
  rcases hc with hc | hc
  · exact (h3 b hb).1 hc
  · have := (h3 b hb).2; omega
/-- Blocks of O are turned. -/
theorem LkO.turn (h : LkO W w L s O) {fp : Nat → Prop} (he : Ext fp w w2) (hf : ∀ b, fp b → O b ∧ W.heap.size ≤ b) : LkO W w2 L s O := by
  have hs := h.size
  obtain ⟨h1, ⟨p, h2, h3⟩, h4⟩ := h
  exact ⟨h1.trans (he.belowOf hs (fun b hb hc => by have := (hf b hc).2; omega)), ⟨p, h2.ext he (fun b hb hc => (h3 b hc).1 (hf b hb).1), h3⟩, fun b hb => Nat.lt_of_lt_of_le (h4 b hb) he.size⟩
theorem LkO.made {p : LkP} (h1 : LkAt w L p s) (h2 : Below W.heap.size W w) (h3 : ∀ b, p.all L b → W.heap.size ≤ b) (ho : ∀ b, O b → b < W.heap.size) : LkO W w L s O :=
  ⟨h2, ⟨p, h1, fun b hb => ⟨fun hc => by have := h3 b hb; have := ho b hc; omega, h3 b hb⟩⟩, fun b hb => Nat.lt_of_lt_of_le (ho b hb) h2.size⟩
theorem LkO.post {p : LkP} {s' : LkS} {w' : World} (h : LkO W w L s O) (h2 : LkAt w L p s) (h3 : ∀ b, p.all L b → ¬ O b ∧ W.heap.size ≤ b) (hp : LkPost w L p s' w') : LkO W w' L s' O ∧ Ext (notO O) w w' := by
  have hs := h.size
  obtain ⟨h1, _, h4⟩ := h
  obtain ⟨p', g1, g2, g3⟩ := hp
  refine ⟨⟨h1.trans (g3.belowOf hs (fun b hb hc => by have := (h3 b hc).2; omega)), ⟨p', g1, fun b hb => ?_⟩, fun b hb => Nat.lt_of_lt_of_le (h4 b hb) g3.size⟩, g3.mono (fun b _ hb => (h3 b hb).1)⟩
  rcases g2 b hb with h5 | h5
  · exact h3 b h5
  · exact ⟨fun hc => by have := h4 b hc; omega, by omega⟩
theorem LkO.cell0 (h : LkO W w L s O) : ∃ N, w.cell? ⟨L, 0, none⟩ = some (.pointer (some ⟨N, 0, none⟩)) ∧ w.cell? ⟨N, 2, none⟩ = some (.bool true) := by
  obtain ⟨_, ⟨p, h2, _⟩, _⟩ := h
  exact ⟨p.N, h2.link.cell (o := 0) rfl, h2.net.cell (o := 2) rfl⟩
section
variable (h : LkO W w L s O) (hpr : s.prompt) (iz : Int) (nv : Value) (nodes : List Int) (hn : Is w nv nodes) (hnv : ∀ g, nv.ownBlock = some g → O g) (hnl : nodes.length ≤ 1073741824)
include h hpr hn hnv hnl
theorem lko_append (pos : Int) (dv : Value) (l : List UInt8) (hm : mayB s ⟨iz, nodes⟩ pos 4095 = true) (hl : l.length ≤ 65504) (hd : Bs w dv l) (hdv : ∀ g, dv.ownBlock = some g → O g) :
    Calls Tryz.prog 18 #[.pointer (some ⟨L, 0, none⟩), .agg #[.int .i64 iz, nv], .int .i64 pos, dv] w fun e w' => e = .returned (.int .i64 (appendL s ⟨iz, nodes⟩ pos l).1) ∧ LkO W w' L (appendL s ⟨iz, nodes⟩ pos l).2 O ∧ Ext (notO O) w w' := by
  obtain ⟨p, h2, h3⟩ := h.lk
  have hnot : ∀ g, O g → ¬ p.all L g ∧ g < w.heap.size := fun g hg => ⟨fun hc => (h3 g hc).1 hg, h.small g hg⟩
  refine (log_Append h2 hpr iz nv nodes pos dv l hm hl hd (fun g hg => hnot g (hdv g hg)) hn hnl (fun g hg => hnot g (hnv g hg))).mono ?_
  rintro e w' ⟨rfl, hp⟩
  exact ⟨rfl, h.post h2 h3 hp⟩
theorem lko_trim (pos : Int) (hm : mayB s ⟨iz, nodes⟩ pos 4096 = true) :
    Calls Tryz.prog 21 #[.pointer (some ⟨L, 0, none⟩), .agg #[.int .i64 iz, nv], .int .i64 pos] w fun e w' => e = .returned (.int .i64 (trimL s ⟨iz, nodes⟩ pos).1) ∧ LkO W w' L (trimL s ⟨iz, nodes⟩ pos).2 O ∧ Ext (notO O) w w' := by
  obtain ⟨p, h2, h3⟩ := h.lk
  have hnot : ∀ g, O g → ¬ p.all L g ∧ g < w.heap.size := fun g hg => ⟨fun hc => (h3 g hc).1 hg, h.small g hg⟩
  refine (log_Trim h2 hpr iz nv nodes pos hm hn hnl (fun g hg => hnot g (hnv g hg))).mono ?_
  rintro e w' ⟨rfl, hp⟩
  exact ⟨rfl, h.post h2 h3 hp⟩
theorem lko_seal (hm : mayB s ⟨iz, nodes⟩ 0 0 = true) :
    Calls Tryz.prog 20 #[.pointer (some ⟨L, 0, none⟩), .agg #[.int .i64 iz, nv]] w fun e w' => e = .returned (.tuple #[.int .i64 (sealL s ⟨iz, nodes⟩).1, .int .i64 (sealL s ⟨iz, nodes⟩).2.1]) ∧ LkO W w' L (sealL s ⟨iz, nodes⟩).2.2 O ∧ Ext (notO O) w w' := by
  obtain ⟨p, h2, h3⟩ := h.lk
  have hnot : ∀ g, O g → ¬ p.all L g ∧ g < w.heap.size := fun g hg => ⟨fun hc => (h3 g hc).1 hg, h.small g hg⟩
  refine (log_Seal h2 hpr iz nv nodes hm hn hnl (fun g hg => hnot g (hnv g hg))).mono ?_
  rintro e w' ⟨rfl, hp⟩
  exact ⟨rfl, h.post h2 h3 hp⟩
theorem lko_repair (fa tb : Int) (hm : mayB s ⟨iz, nodes⟩ fa tb = true) (htb : tb ≤ 4096) (hok : placesOk ⟨iz, nodes⟩ (tb - fa).toNat s fa) :
    Calls Tryz.prog 24 #[.pointer (some ⟨L, 0, none⟩), .agg #[.int .i64 iz, nv], .int .i64 fa, .int .i64 tb] w fun e w' => e = .returned (.int .i64 (repairL s ⟨iz, nodes⟩ fa tb).1) ∧ LkO W w' L (repairL s ⟨iz, nodes⟩ fa tb).2 O ∧ Ext (notO O) w w' := by
  obtain ⟨p, h2, h3⟩ := h.lk
  have hnot : ∀ g, O g → ¬ p.all L g ∧ g < w.heap.size := fun g hg => ⟨fun hc => (h3 g hc).1 hg, h.small g hg⟩
  refine (log_Repair h2 hpr iz nv nodes fa tb hm htb hn hnl (fun g hg => hnot g (hnv g hg)) hok).mono ?_
  rintro e w' ⟨rfl, hp⟩
  exact ⟨rfl, h.post h2 h3 hp⟩
/-- What is read lies in a block of its own, that is none of the link's. -/
theorem lko_read (pos : Int) (hm : mayB s ⟨iz, nodes⟩ pos 4095 = true) :
    Calls Tryz.prog 19 #[.pointer (some ⟨L, 0, none⟩), .agg #[.int .i64 iz, nv], .int .i64 pos] w fun e w' => ∃ v, e = .returned (.tuple #[v, .int .i64 (readL s ⟨iz, nodes⟩ pos).2.1]) ∧ LkO W w' L (readL s ⟨iz, nodes⟩ pos).2.2 (fun b => O b ∨ v.ownBlock = some b) ∧ Ext (notO O) w w' ∧ Bs w' v (readL s ⟨iz, nodes⟩ pos).1 ∧ ∀ g, v.ownBlock = some g → w.heap.size ≤ g := by
  obtain ⟨p, h2, h3⟩ := h.lk
  have hnot : ∀ g, O g → ¬ p.all L g ∧ g < w.heap.size := fun g hg => ⟨fun hc => (h3 g hc).1 hg, h.small g hg⟩
  refine (log_Read h2 hpr iz nv nodes pos hm hn hnl (fun g hg => hnot g (hnv g hg))).mono ?_
  rintro e w' ⟨v, p', rfl, g1, g2, g3, g4, g5⟩
  obtain ⟨k1, k2⟩ := h.post h2 h3 ⟨p', g1, g2, g3⟩
  refine ⟨v, rfl, ⟨k1.below, ⟨p', g1, fun b hb => ?_⟩, fun b hb => hb.elim (k1.small b) (fun e => (g5 b e).2.2)⟩, k2, g4, fun g hg => (g5 g hg).2.1⟩
  have hW : W.heap.size ≤ b := (g2 b hb).elim (fun h => (h3 b h).2) (fun hc => Nat.le_trans h.size hc)
  refine ⟨fun hc => ?_, hW⟩
  rcases hc with hc | hc
  · rcases g2 b hb with h5 | h5
    · exact (h3 b h5).1 hc
    · have := h.small b hc; omega
  · exact (g5 b hc).1 hb
end
end
/-- The block of a slice that is an argument. -/
theorem okWide_own {P : Program} {w : World} {r : Reach} {base : Nat} {t e : TypeId} (ht : P.underlying t = some (.slice e)) {a : Addr} {n c : Nat} (h : Value.okWide P w r base t (.slice (some a) n c)) : a.block < w.heap.size := by
  simp only [Value.okWide, ht, Cell.okWide, Cell.ok, World.has] at h
  obtain ⟨_, _, _, _, row, cells, hs, _⟩ := h
  unfold World.shape? at hs
  split at hs
  · rename_i hc
    exact (Array.getElem?_eq_some_iff.1 hc).1
  · cases hs
end Go.Proofs.YtbahjinlcbjikaaGreat
