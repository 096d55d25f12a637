import Derived.Test.YtbahjinlcbjikaaGreatMLgP
/-! Package loglet, plain words: with no luck waiting, all nodes of a config answer at once; nodes that are all alike, or down. -/
namespace Go.Proofs.YtbahjinlcbjikaaGreat
open Go.RowKit

/-- The numbers from s on, n of them. -/
def idxL : Nat → Nat → List Int
  | _, 0 => []
  | s, n + 1 => (s : Int) :: idxL (s + 1) n
theorem idxL_length : ∀ (n s : Nat), (idxL s n).length = n
  | 0, _ => rfl
  | n + 1, s => by simp [idxL, idxL_length n (s + 1)]
theorem idxL_snoc : ∀ (n s : Nat), idxL s (n + 1) = idxL s n ++ [((s + n : Nat) : Int)]
  | 0, s => by simp [idxL]
  | n + 1, s => by
    have h := idxL_snoc n (s + 1)
    show (s : Int) :: idxL (s + 1) (n + 1) = ((s : Int) :: idxL (s + 1) n) ++ [((s + (n + 1) : Nat) : Int)]
    rw [h, show s + 1 + n = s + (n + 1) from by omega]
    rfl
theorem idxL_mem : ∀ (n s : Nat) (x : Int), x ∈ idxL s n → (s : Int) ≤ x ∧ x < ((s + n : Nat) : Int)
  | 0, _, x, h => by cases h
  | n + 1, s, x, h => by
    simp only [idxL, List.mem_cons] at h
    rcases h with rfl | h
    · omega
    · have := idxL_mem n (s + 1) x h
      omega
theorem idxL_nodup : ∀ (n s : Nat), (idxL s n).Nodup
  | 0, _ => List.nodup_nil
  | n + 1, s => by
    refine List.nodup_cons.2 ⟨fun h => ?_, idxL_nodup n (s + 1)⟩
    have := idxL_mem n (s + 1) _ h
    omega
theorem check_idx (id : Int) (n : Nat) (h0 : 0 ≤ id) (h1 : id < 281474976710656) (hn : 1 ≤ n) (hn9 : n ≤ 9) : checkB ⟨id, idxL 0 n⟩ n = true := by
  unfold checkB
  refine decide_eq_true ⟨h0, h1, ?_, ?_, fun x hx => ?_, idxL_nodup n 0⟩
  · show 1 ≤ (idxL 0 n).length
    rw [idxL_length]
    exact hn
  · show (idxL 0 n).length ≤ 9
    rw [idxL_length]
    exact hn9
  · have := idxL_mem n 0 x hx
    omega
/-- One node is asked, with no luck waiting. -/
theorem askL_plain {ds : List Nds} {i : Nat} {d : Nds} (k lo po : Int) (l : List UInt8) (hr : rightB k lo po l.length = true) (hi : ds[i]? = some d) :
    askL ⟨[], ds⟩ (i : Int) k lo po l = ((askD d k lo po l).1, ⟨[], ds.set i (askD d k lo po l).2⟩) := by
  obtain ⟨hlt, rfl⟩ := List.getElem?_eq_some_iff.1 hi
  have hg : ds.getD ((i : Int).toNat) none = ds[i] := by simp [hlt]
  unfold askL
  rw [if_pos ⟨hr, by omega, by show (i : Int) < (ds.length : Int); omega⟩]
  show ((if replyF 0 = true then (askN k lo po l (timesF 0) (ds.getD ((i : Int).toNat) none)).1 else none), (⟨[], ds.set ((i : Int).toNat) (askN k lo po l (timesF 0) (ds.getD ((i : Int).toNat) none)).2⟩ : LkS)) = _
  rw [hg]
  rfl
theorem replies_all (k lo po : Int) (l : List UInt8) (hr : rightB k lo po l.length = true) : ∀ (rest dn : List Nds),
    repliesL ⟨[], dn ++ rest⟩ k lo po l (idxL dn.length rest.length) = (rest.filterMap (fun d => (askD d k lo po l).1), ⟨[], dn ++ rest.map (fun d => (askD d k lo po l).2)⟩)
  | [], dn => by simp [idxL, repliesL]
  | d :: r, dn => by
    have h1 := askL_plain (ds := dn ++ d :: r) (i := dn.length) (d := d) k lo po l hr (by simp)
    have h2 := replies_all k lo po l hr r (dn ++ [(askD d k lo po l).2])
    have hset : (dn ++ d :: r).set dn.length (askD d k lo po l).2 = (dn ++ [(askD d k lo po l).2]) ++ r := by simp
    rw [List.length_append, List.length_singleton] at h2
    show repliesL ⟨[], dn ++ d :: r⟩ k lo po l ((dn.length : Int) :: idxL (dn.length + 1) r.length) = _
    unfold repliesL
    rw [h1, hset, h2]
    cases hd : (askD d k lo po l).1 <;> simp [hd]
/-- Nodes that are down, or all alike. -/
def mixL (dn : List Bool) (X : St × Dk) : List Nds := dn.map (fun b => if b = true then none else some X)
def upL (dn : List Bool) : Nat := (dn.filter (fun b => !b)).length
theorem mix_map (k lo po : Int) (l : List UInt8) (X X' : St × Dk) (h : (askD (some X) k lo po l).2 = some X') : ∀ dn : List Bool, (mixL dn X).map (fun d => (askD d k lo po l).2) = mixL dn X'
  | [] => rfl
  | b :: r => by
    have := mix_map k lo po l X X' h r
    unfold mixL at this ⊢
    cases b
    · simp only [List.map_cons, Bool.false_eq_true, if_false, h, this]
    · simp only [List.map_cons, if_true, this]
      rfl
theorem mix_filter (k lo po : Int) (l : List UInt8) (X : St × Dk) (r : LRp) (h : (askD (some X) k lo po l).1 = some r) : ∀ dn : List Bool, (mixL dn X).filterMap (fun d => (askD d k lo po l).1) = List.replicate (upL dn) r
  | [] => rfl
  | b :: q => by
    have := mix_filter k lo po l X r h q
    unfold mixL upL at this ⊢
    cases b
    · simp only [List.map_cons, Bool.false_eq_true, if_false, List.filterMap_cons, h, this]
      simp [List.replicate_succ]
    · have hn : (askD none k lo po l).1 = none := rfl
      simp only [List.map_cons, if_true, List.filterMap_cons, hn, this]
      simp
/-- All nodes of a config are asked: those that are up answer alike. -/
theorem replies_mix (k lo po : Int) (l : List UInt8) (X X' : St × Dk) (r : LRp) (hr : rightB k lo po l.length = true) (h1 : (askD (some X) k lo po l).1 = some r) (h2 : (askD (some X) k lo po l).2 = some X') (dn : List Bool) :
    repliesL ⟨[], mixL dn X⟩ k lo po l (idxL 0 dn.length) = (List.replicate (upL dn) r, ⟨[], mixL dn X'⟩) := by
  have h := replies_all k lo po l hr (mixL dn X) []
  rw [mix_map k lo po l X X' h2, mix_filter k lo po l X r h1] at h
  have hl : (mixL dn X).length = dn.length := by simp [mixL]
  rw [hl] at h
  exact h
theorem cntE_rep (e : Int) (n : Nat) (r : LRp) : cntE e (List.replicate n r) = if r.e = e then n else 0 := by
  unfold cntE
  by_cases h : r.e = e
  · rw [if_pos h, List.filter_eq_self.2]
    · simp
    · intro x hx
      rw [List.eq_of_mem_replicate hx]
      exact decide_eq_true h
  · rw [if_neg h, List.length_eq_zero_iff, List.filter_eq_nil_iff]
    intro x hx
    rw [List.eq_of_mem_replicate hx]
    simp [h]
end Go.Proofs.YtbahjinlcbjikaaGreat

/-! One node, as LogletCounts asks it: write, read, seal, write again, trim. -/
namespace Go.Proofs.YtbahjinlcbjikaaGreat
open Go.RowKit

theorem synced_len (D : Dk) (fin : Nat) (EB : List UInt8) (num : Int) (k : Nat) : (D.wrote fin EB num k).synced.texts.length = D.texts.length := by
  simp [Dk.synced, Dk.wrote]
theorem fresh_lenN (n : Nat) : (Dk.fresh n).texts.length = n := List.length_replicate
theorem chunks_five (kd lo po : Int) {l : List UInt8} (h : l.length ≤ 1000) : chunks (entryB kd lo po l) ≤ 5 := by
  unfold chunks
  have : (entryB kd lo po l).length = l.length + 13 := by simp [entryB, lowB_length]; omega
  rw [this]
  omega
/-- The store and the disk behind the first write; behind the seal; behind the trim. -/
def cS1 (l : List UInt8) : St := { applyPut St.fresh 4 0 l with fin := 0 + chunks (entryB 1 4 0 l), num := 0 + 1 }
def cD1 (l : List UInt8) : Dk := ((Dk.fresh 30).wrote 0 (entryB 1 4 0 l) ((0 : Nat) : Int) (chunks (entryB 1 4 0 l))).synced
def cS2 (l : List UInt8) : St := { applySeal (cS1 l) 4 with fin := (cS1 l).fin + chunks (entryB 2 4 0 []), num := (cS1 l).num + 1 }
def cD2 (l : List UInt8) : Dk := ((cD1 l).wrote (cS1 l).fin (entryB 2 4 0 []) ((cS1 l).num : Int) (chunks (entryB 2 4 0 []))).synced
def cS3 (l : List UInt8) : St := { applyTrim (cS2 l) 4 1 with fin := (cS2 l).fin + chunks (entryB 3 4 1 []), num := (cS2 l).num + 1 }
def cD3 (l : List UInt8) : Dk := ((cD2 l).wrote (cS2 l).fin (entryB 3 4 1 []) ((cS2 l).num : Int) (chunks (entryB 3 4 1 []))).synced
theorem cS1_get (l : List UInt8) : (cS1 l).get 4 = (1, 0, false) := rfl
theorem cS2_get (l : List UInt8) : (cS2 l).get 4 = (1, 0, true) := rfl
theorem cS3_get (l : List UInt8) : (cS3 l).get 4 = (1, 1, true) := rfl
theorem cS1_slot (l : List UInt8) : (cS1 l).slots (4, 0) = some l := rfl
theorem cS2_slot1 (l : List UInt8) : (cS2 l).slots (4, 1) = none := rfl
theorem cS1_fin {l : List UInt8} (h : l.length ≤ 1000) : (cS1 l).fin ≤ 5 := by
  have := chunks_five 1 4 0 h
  show 0 + chunks (entryB 1 4 0 l) ≤ 5
  omega
theorem cS2_fin {l : List UInt8} (h : l.length ≤ 1000) : (cS2 l).fin ≤ 10 := by
  have h1 := cS1_fin h
  have h2 := chunks_five 2 4 0 (l := []) (by simp)
  show (cS1 l).fin + chunks (entryB 2 4 0 []) ≤ 10
  omega
theorem cD1_len (l : List UInt8) : (cD1 l).texts.length = 30 := (synced_len _ _ _ _ _).trans (fresh_lenN 30)
theorem cD2_len (l : List UInt8) : (cD2 l).texts.length = 30 := (synced_len _ _ _ _ _).trans (cD1_len l)
theorem do_write {l : List UInt8} (h : l.length ≤ 1000) : doF St.fresh (Dk.fresh 30) 1 4 0 l = (0, [], cS1 l, cD1 l) := by
  have hp : putF St.fresh (Dk.fresh 30) 4 0 l false = writeF St.fresh (applyPut St.fresh 4 0 l) (Dk.fresh 30) 1 4 0 l := rfl
  have hw : writeF St.fresh (applyPut St.fresh 4 0 l) (Dk.fresh 30) 1 4 0 l = (0, cS1 l, cD1 l) := by
    unfold writeF
    rw [if_pos (by have := chunks_five 1 4 0 h; rw [fresh_lenN]; show 0 + _ ≤ 30; omega)]
    rfl
  unfold doF
  rw [if_pos rfl, if_pos (by omega), hp, hw]
theorem do_read (l : List UInt8) : doF (cS1 l) (cD1 l) 4 4 0 [] = (0, l, cS1 l, cD1 l) := by
  have hg : getF (cS1 l) 4 0 = (0, l) := by
    unfold getF
    rw [cS1_get, if_neg (by decide), cS1_slot]
  unfold doF
  rw [if_neg (by omega), if_neg (by omega), if_neg (by omega), if_pos rfl, if_pos (by omega), hg]
theorem do_seal {l : List UInt8} (h : l.length ≤ 1000) : doF (cS1 l) (cD1 l) 3 4 0 [] = (0, [], cS2 l, cD2 l) := by
  have hs : sealF (cS1 l) (cD1 l) 4 = writeF (cS1 l) (applySeal (cS1 l) 4) (cD1 l) 2 4 0 [] := by
    unfold sealF
    rw [cS1_get, if_neg (by decide)]
  have hw : writeF (cS1 l) (applySeal (cS1 l) 4) (cD1 l) 2 4 0 [] = (0, cS2 l, cD2 l) := by
    unfold writeF
    rw [if_pos (by have h1 := cS1_fin h; have h2 := chunks_five 2 4 0 (l := []) (by simp); rw [cD1_len]; omega)]
    rfl
  unfold doF
  rw [if_neg (by omega), if_neg (by omega), if_pos rfl, hs, hw]
theorem do_again (l m : List UInt8) : doF (cS2 l) (cD2 l) 1 4 1 m = (30, [], cS2 l, cD2 l) := by
  have hg : putF (cS2 l) (cD2 l) 4 1 m false = (30, cS2 l, cD2 l) := by
    unfold putF
    rw [cS2_get, if_neg (by decide), cS2_slot1]
    rfl
  unfold doF
  rw [if_pos rfl, if_pos (by omega), hg]
theorem do_trim {l : List UInt8} (h : l.length ≤ 1000) : doF (cS2 l) (cD2 l) 6 4 1 [] = (0, [], cS3 l, cD3 l) := by
  have hs : trimF (cS2 l) (cD2 l) 4 1 = writeF (cS2 l) (applyTrim (cS2 l) 4 1) (cD2 l) 3 4 1 [] := by
    unfold trimF
    rw [cS2_get, if_neg (by decide)]
  have hw : writeF (cS2 l) (applyTrim (cS2 l) 4 1) (cD2 l) 3 4 1 [] = (0, cS3 l, cD3 l) := by
    unfold writeF
    rw [if_pos (by have h1 := cS2_fin h; have h2 := chunks_five 3 4 1 (l := []) (by simp); rw [cD2_len]; omega)]
    rfl
  unfold doF
  rw [if_neg (by omega), if_neg (by omega), if_neg (by omega), if_neg (by omega), if_pos rfl, hs, hw]
theorem ask_of {S : St} {D : Dk} {k lo po : Int} {l : List UInt8} {e : Int} {b : List UInt8} {S' : St} {D' : Dk} {tl tr : Int} {sl : Bool} (h : doF S D k lo po l = (e, b, S', D')) (hg : S'.get lo = (tl, tr, sl)) (ht : tellsB e (max tl tr) b.length = true) :
    askD (some (S, D)) k lo po l = (some ⟨e, max tl tr, sl, b⟩, some (S', D')) := by
  unfold askD
  simp only [h, hg, tailF]
  rw [if_pos ht]
theorem ask_write {l : List UInt8} (h : l.length ≤ 1000) : askD (some (St.fresh, Dk.fresh 30)) 1 4 0 l = (some ⟨0, 1, false, []⟩, some (cS1 l, cD1 l)) := ask_of (do_write h) (cS1_get l) (by decide)
theorem ask_read {l : List UInt8} (h : l.length ≤ 1000) : askD (some (cS1 l, cD1 l)) 4 4 0 [] = (some ⟨0, 1, false, l⟩, some (cS1 l, cD1 l)) := ask_of (do_read l) (cS1_get l) (decide_eq_true ⟨by omega, by omega, by decide, by decide, by omega⟩)
theorem ask_seal {l : List UInt8} (h : l.length ≤ 1000) : askD (some (cS1 l, cD1 l)) 3 4 0 [] = (some ⟨0, 1, true, []⟩, some (cS2 l, cD2 l)) := ask_of (do_seal h) (cS2_get l) (by decide)
theorem ask_again (l m : List UInt8) : askD (some (cS2 l, cD2 l)) 1 4 1 m = (some ⟨30, 1, true, []⟩, some (cS2 l, cD2 l)) := ask_of (do_again l m) (cS2_get l) (by decide)
theorem ask_trim {l : List UInt8} (h : l.length ≤ 1000) : askD (some (cS2 l, cD2 l)) 6 4 1 [] = (some ⟨0, 1, true, []⟩, some (cS3 l, cD3 l)) := ask_of (do_trim h) (cS3_get l) (by decide)
end Go.Proofs.YtbahjinlcbjikaaGreat

/-! LogletCounts: the plain law. -/
namespace Go.Proofs.YtbahjinlcbjikaaGreat
open Go.RowKit

theorem reads_all (lo po : Int) (X : St × Dk) (r : LRp) (hr : rightB 4 lo po 0 = true) (h1 : askD (some X) 4 lo po [] = (some r, some X)) (h0 : r.e = 0) : ∀ (rest dn : List Bool),
    (readsL ⟨[], mixL (dn ++ rest) X⟩ lo po (idxL dn.length rest.length)).1 = (if upL rest = 0 then none else some r.b) ∧ (readsL ⟨[], mixL (dn ++ rest) X⟩ lo po (idxL dn.length rest.length)).2.1 = [] ∧ (readsL ⟨[], mixL (dn ++ rest) X⟩ lo po (idxL dn.length rest.length)).2.2 = ⟨[], mixL (dn ++ rest) X⟩
  | [], dn => ⟨rfl, rfl, rfl⟩
  | b :: q, dn => by
    have ih := reads_all lo po X r hr h1 h0 q (dn ++ [b])
    rw [List.length_append, List.length_singleton, List.append_assoc, List.singleton_append] at ih
    have hi : (mixL (dn ++ b :: q) X)[dn.length]? = some (if b = true then none else some X) := by simp [mixL]
    have ha := askL_plain (ds := mixL (dn ++ b :: q) X) (i := dn.length) 4 lo po [] hr hi
    have hset : (mixL (dn ++ b :: q) X).set dn.length (if b = true then none else some X) = mixL (dn ++ b :: q) X := by
      obtain ⟨hlt, he⟩ := List.getElem?_eq_some_iff.1 hi
      conv => lhs; rw [← he]
      exact List.set_getElem_self hlt
    cases b
    · have hd : (askD (if false = true then none else some X) 4 lo po []) = (some r, some X) := h1
      rw [hd] at ha
      have hset2 : (mixL (dn ++ false :: q) X).set dn.length (some X) = mixL (dn ++ false :: q) X := hset
      rw [hset2] at ha
      have hu : upL (false :: q) = upL q + 1 := by simp [upL]
      have he : readsL ⟨[], mixL (dn ++ false :: q) X⟩ lo po (idxL dn.length (false :: q).length) = (some r.b, [], ⟨[], mixL (dn ++ false :: q) X⟩) := by
        show readsL ⟨[], mixL (dn ++ false :: q) X⟩ lo po ((dn.length : Int) :: idxL (dn.length + 1) q.length) = _
        unfold readsL
        rw [ha]
        simp [h0]
      rw [he, hu]
      exact ⟨by simp, rfl, rfl⟩
    · have hd : (askD (if true = true then none else some X) 4 lo po []) = (none, none) := rfl
      rw [hd] at ha
      have hset2 : (mixL (dn ++ true :: q) X).set dn.length none = mixL (dn ++ true :: q) X := hset
      rw [hset2] at ha
      have hu : upL (true :: q) = upL q := by simp [upL]
      have he : readsL ⟨[], mixL (dn ++ true :: q) X⟩ lo po (idxL dn.length (true :: q).length) = readsL ⟨[], mixL (dn ++ true :: q) X⟩ lo po (idxL (dn.length + 1) q.length) := by
        show readsL ⟨[], mixL (dn ++ true :: q) X⟩ lo po ((dn.length : Int) :: idxL (dn.length + 1) q.length) = _
        conv => lhs; unfold readsL
        rw [ha]
      rw [he, hu]
      exact ih
/-- The link of LogletCounts, at each of its nodes' states. -/
def cL (dn : List Bool) (X : St × Dk) : LkS := ⟨[], mixL dn X⟩
section
variable {dn : List Bool} {l : List UInt8} (hn : 1 ≤ dn.length) (hn9 : dn.length ≤ 9) (hl : l.length ≤ 1000)
theorem cL_len (X : St × Dk) : (cL dn X).nds.length = dn.length := by simp [cL, mixL]
include hn hn9
theorem c_may (X : St × Dk) (pos most : Int) (h : 0 ≤ pos ∧ pos ≤ most) : mayB (cL dn X) ⟨4, idxL 0 dn.length⟩ pos most = true := by
  unfold mayB
  rw [cL_len, check_idx 4 dn.length (by omega) (by omega) hn hn9]
  exact decide_eq_true h
theorem c_again {m : List UInt8} (hm : m.length ≤ 1000) : appendL (cL dn (cS2 l, cD2 l)) ⟨4, idxL 0 dn.length⟩ 1 m = (if upL dn = 0 then 33 else 30, cL dn (cS2 l, cD2 l)) := by
  have hw := ask_again l m
  have hr : rightB 1 4 1 m.length = true := decide_eq_true ⟨by omega, by omega, by omega, by omega, by omega, by omega, by omega, .inl rfl⟩
  have hq := replies_mix 1 4 1 m _ _ _ hr (congrArg Prod.fst hw) (congrArg Prod.snd hw) dn
  have hlen := idxL_length dn.length 0
  unfold appendL
  rw [if_pos (c_may hn hn9 _ 1 4095 (by omega)), if_neg (by omega)]
  show (if (⟨4, idxL 0 dn.length⟩ : Cfg).quorum ≤ cntE 0 (repliesL ⟨[], mixL dn (cS2 l, cD2 l)⟩ 1 4 1 m (idxL 0 dn.length)).1 then (0 : Int) else firstE [30, 31, 32, 7] (repliesL ⟨[], mixL dn (cS2 l, cD2 l)⟩ 1 4 1 m (idxL 0 dn.length)).1, (repliesL ⟨[], mixL dn (cS2 l, cD2 l)⟩ 1 4 1 m (idxL 0 dn.length)).2) = _
  rw [hq]
  unfold Cfg.quorum
  simp only [hlen, cntE_rep, firstE]
  by_cases hu : upL dn = 0
  · simp [hu]
    rfl
  · have h0 : 0 < upL dn := by omega
    simp [hu, h0]
    rfl
include hl
theorem c_append : appendL (cL dn (St.fresh, Dk.fresh 30)) ⟨4, idxL 0 dn.length⟩ 0 l = (if dn.length / 2 + 1 ≤ upL dn then 0 else 33, cL dn (cS1 l, cD1 l)) := by
  have hw := ask_write hl
  have hr : rightB 1 4 0 l.length = true := decide_eq_true ⟨by omega, by omega, by omega, by omega, by omega, by omega, by omega, .inl rfl⟩
  have hq := replies_mix 1 4 0 l _ _ _ hr (congrArg Prod.fst hw) (congrArg Prod.snd hw) dn
  have hlen := idxL_length dn.length 0
  unfold appendL
  rw [if_pos (c_may hn hn9 _ 0 4095 (by omega)), if_neg (by omega)]
  show (if (⟨4, idxL 0 dn.length⟩ : Cfg).quorum ≤ cntE 0 (repliesL ⟨[], mixL dn (St.fresh, Dk.fresh 30)⟩ 1 4 0 l (idxL 0 dn.length)).1 then (0 : Int) else firstE [30, 31, 32, 7] (repliesL ⟨[], mixL dn (St.fresh, Dk.fresh 30)⟩ 1 4 0 l (idxL 0 dn.length)).1, (repliesL ⟨[], mixL dn (St.fresh, Dk.fresh 30)⟩ 1 4 0 l (idxL 0 dn.length)).2) = _
  rw [hq]
  unfold Cfg.quorum
  simp only [hlen, cntE_rep, firstE]
  rfl
theorem c_read : readL (cL dn (cS1 l, cD1 l)) ⟨4, idxL 0 dn.length⟩ 0 = (if upL dn = 0 then ([], 33, cL dn (cS1 l, cD1 l)) else (l, 0, cL dn (cS1 l, cD1 l))) := by
  have hr : rightB 4 4 0 0 = true := by decide
  obtain ⟨h1, h2, h3⟩ := reads_all 4 0 (cS1 l, cD1 l) ⟨0, 1, false, l⟩ hr (ask_read hl) rfl dn []
  unfold readL
  rw [if_pos (c_may hn hn9 _ 0 4095 (by omega))]
  show (match (readsL ⟨[], mixL dn (cS1 l, cD1 l)⟩ 4 0 (idxL 0 dn.length)).1 with
    | some b => (b, (0 : Int), (readsL ⟨[], mixL dn (cS1 l, cD1 l)⟩ 4 0 (idxL 0 dn.length)).2.2)
    | none => ([], if 0 < cntE 32 (readsL ⟨[], mixL dn (cS1 l, cD1 l)⟩ 4 0 (idxL 0 dn.length)).2.1 then 32 else if (idxL 0 dn.length).length ≤ cntE 3 (readsL ⟨[], mixL dn (cS1 l, cD1 l)⟩ 4 0 (idxL 0 dn.length)).2.1 then 3 else 33, (readsL ⟨[], mixL dn (cS1 l, cD1 l)⟩ 4 0 (idxL 0 dn.length)).2.2)) = _
  simp only [List.length_nil, List.nil_append] at h1 h2 h3
  rw [h1, h2, h3, idxL_length]
  by_cases hu : upL dn = 0
  · rw [if_pos hu, if_pos hu]
    have hc : ∀ e, cntE e [] = 0 := fun e => rfl
    simp only [hc]
    rw [if_neg (by omega), if_neg (by omega)]
    rfl
  · rw [if_neg hu, if_neg hu]
    rfl
theorem c_seal : sealL (cL dn (cS1 l, cD1 l)) ⟨4, idxL 0 dn.length⟩ = (if upL dn < dn.length / 2 + 1 then (0, 33, cL dn (cS2 l, cD2 l)) else (1, 0, cL dn (cS2 l, cD2 l))) := by
  have hw := ask_seal hl
  have hr : rightB 3 4 0 ([] : List UInt8).length = true := by decide
  have hq := replies_mix 3 4 0 [] _ _ _ hr (congrArg Prod.fst hw) (congrArg Prod.snd hw) dn
  have hlen := idxL_length dn.length 0
  have ht : ∀ (m : Nat) (t : Int), 0 ≤ t → t ≤ 1 → (List.replicate m (⟨0, 1, true, []⟩ : LRp)).foldl (fun t r => if r.e = 0 then max t r.tl else t) t = if m = 0 then t else 1 := by
    intro m
    induction m with
    | zero => intro t _ _; rfl
    | succ m ih =>
      intro t h0 h1
      rw [List.replicate_succ, List.foldl_cons, if_pos rfl]
      show List.foldl _ (max t 1) _ = _
      rw [show max t 1 = 1 by omega, ih 1 (by omega) (by omega)]
      split <;> simp
  unfold sealL
  rw [if_pos (c_may hn hn9 _ 0 0 (by omega))]
  show (if cntE 0 (repliesL ⟨[], mixL dn (cS1 l, cD1 l)⟩ 3 4 0 [] (idxL 0 dn.length)).1 < (⟨4, idxL 0 dn.length⟩ : Cfg).quorum then ((0 : Int), firstE [7] (repliesL ⟨[], mixL dn (cS1 l, cD1 l)⟩ 3 4 0 [] (idxL 0 dn.length)).1, (repliesL ⟨[], mixL dn (cS1 l, cD1 l)⟩ 3 4 0 [] (idxL 0 dn.length)).2) else (tailL (repliesL ⟨[], mixL dn (cS1 l, cD1 l)⟩ 3 4 0 [] (idxL 0 dn.length)).1, (0 : Int), (repliesL ⟨[], mixL dn (cS1 l, cD1 l)⟩ 3 4 0 [] (idxL 0 dn.length)).2)) = _
  rw [hq]
  unfold Cfg.quorum tailL
  rw [ht (upL dn) 0 (by omega) (by omega)]
  simp only [hlen, cntE_rep, firstE]
  by_cases hu : upL dn < dn.length / 2 + 1
  · rw [if_pos hu]
    simp [hu]
    rfl
  · rw [if_neg hu]
    have h0 : ¬ upL dn = 0 := by omega
    simp [hu, h0]
    rfl
theorem c_trim : trimL (cL dn (cS2 l, cD2 l)) ⟨4, idxL 0 dn.length⟩ 1 = (if dn.length / 2 + 1 ≤ upL dn then 0 else 33, cL dn (cS3 l, cD3 l)) := by
  have hw := ask_trim hl
  have hr : rightB 6 4 1 ([] : List UInt8).length = true := by decide
  have hq := replies_mix 6 4 1 [] _ _ _ hr (congrArg Prod.fst hw) (congrArg Prod.snd hw) dn
  have hlen := idxL_length dn.length 0
  unfold trimL
  rw [if_pos (c_may hn hn9 _ 1 4096 (by omega))]
  show (if (⟨4, idxL 0 dn.length⟩ : Cfg).quorum ≤ cntE 0 (repliesL ⟨[], mixL dn (cS2 l, cD2 l)⟩ 6 4 1 [] (idxL 0 dn.length)).1 then (0 : Int) else firstE [7] (repliesL ⟨[], mixL dn (cS2 l, cD2 l)⟩ 6 4 1 [] (idxL 0 dn.length)).1, (repliesL ⟨[], mixL dn (cS2 l, cD2 l)⟩ 6 4 1 [] (idxL 0 dn.length)).2) = _
  rw [hq]
  unfold Cfg.quorum
  simp only [hlen, cntE_rep, firstE]
  rfl
end
end Go.Proofs.YtbahjinlcbjikaaGreat
