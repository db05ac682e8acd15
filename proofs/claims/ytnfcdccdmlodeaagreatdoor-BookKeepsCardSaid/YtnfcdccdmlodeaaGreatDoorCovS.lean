/- What ref.CorsCovers keeps: its map of keys while it goes on; sizes of the keys. -/
import Derived.Test.YtnfcdccdmlodeaaGreatDoorCovF
import Derived.Test.YtnfcdccdmlodeaaGreatDoorSetM
namespace Go.Proofs.YtnfcdccdmlodeaaGreatDoor
open Go.RowKit Go.Maps
theorem methodOf_len (s : ByteArray) : (methodOf s).size ≤ max s.size 7 := by
  unfold methodOf
  cases h : meths.find? (fun m => same s m) with
  | none => exact Nat.le_max_left _ _
  | some m =>
    have hm := List.mem_of_find?_eq_some h
    have : ∀ m ∈ meths, m.size ≤ 7 := by decide
    exact Nat.le_trans (this m hm) (Nat.le_max_right _ _)
theorem compact_mem {zs : List (List UInt8)} {x : List UInt8} (h : x ∈ Go.Lib.compact zs) : x ∈ zs := by
  unfold Go.Lib.compact Go.Lib.compactUpTo at h
  obtain ⟨j, hj, rfl⟩ := List.mem_map.1 h
  have hj1 := List.mem_range.1 (List.mem_filter.1 hj).1
  have : (zs.toArray[j]! : List UInt8) = zs[j] := by rw [getElem!_pos zs.toArray j (by simpa using hj1)]; simp
  rw [this]
  exact List.getElem_mem hj1
theorem askL_mem {l : List Hd} {x : List UInt8} (h : x ∈ askL l) : ∃ p ∈ l, x = lower p.1 := by
  have h1 := compact_mem h
  have h2 : x ∈ askRef l := (List.mergeSort_perm (askRef l) _).mem_iff.1 h1
  unfold askRef at h2
  obtain ⟨p, hp, rfl⟩ := List.mem_map.1 h2
  exact ⟨p, (List.mem_filter.1 hp).1, rfl⟩
theorem askL_size {ps : List (ByteArray × ByteArray)} (hz : ∀ p ∈ ps, p.1.size ≤ 1000 ∧ p.2.size ≤ 1000) : ∀ x ∈ askL (hdl ps), x.length ≤ 1000 := by
  intro x hx
  obtain ⟨p, hp, rfl⟩ := askL_mem hx
  obtain ⟨q, hq, rfl⟩ := List.mem_map.1 hp
  rw [lower_length, ← sz_len]
  exact (hz q hq).1
/-- what a pass does away with by its stars -/
def starK (wth : Bool) (p : Pas) (k : List UInt8) : Bool := !wth && ((p.1 == [42] && k.head? == some 109) || (p.2 == [42] && k.head? == some 104 && k != 104 :: authL))
/-- what is left in the map in the midst of a round over its keys -/
def midK (wth : Bool) (p : Pas) (ks : List (List UInt8)) (left : Lit → Bool) : List (List UInt8) := ks.filter (fun k => !starK wth p k || left (.string k))
/-- a pass's two own keys away -/
def ownK (p : Pas) (ks : List (List UInt8)) : List (List UInt8) := (ks.filter (fun x => !(x == 109 :: p.1))).filter (fun x => !(x == 104 :: p.2))
theorem midK_start {D : DataW Unit} {ks : List (List UInt8)} (wth : Bool) (p : Pas) (h : SetIs D ks) : SetIs D (midK wth p ks (Maps.has D)) := by
  refine h.eq fun x => ⟨fun hx => List.mem_filter.2 ⟨hx, ?_⟩, fun hx => (List.mem_filter.1 hx).1⟩
  rw [(h.2 (.string x)).2 ⟨x, hx, rfl⟩, Bool.or_true]
theorem midK_end {wth : Bool} {p : Pas} {ks : List (List UInt8)} {left : Lit → Bool} (h : ∀ kl, left kl = false) : midK wth p (ownK p ks) left = ks.filter (fun k => !gone wth p k) := by
  unfold midK ownK
  rw [List.filter_filter, List.filter_filter]
  congr 1
  funext k
  rw [h]
  unfold gone starK
  cases (k == 109 :: p.1) <;> cases (k == 104 :: p.2) <;> simp
theorem key_ne {x s : List UInt8} (h : x ≠ s) : (Lit.string x).sameKey (.string s) = false := Maps.sameKey_ne (fun e => h (Lit.string.inj e))
theorem key_eq (s : List UInt8) : (Lit.string s).sameKey (.string s) = true := WideAt.sameKey_self trivial
theorem midK_struck {D D' : DataW Unit} {wth : Bool} {p : Pas} {ks : List (List UInt8)} {left : Lit → Bool} {s : List UInt8} (h : SetIs D (midK wth p ks left)) (hd : D' = D.del (.string s)) (hs : starK wth p s = true) :
    SetIs D' (midK wth p ks (fun z => left z && !z.sameKey (.string s))) := by
  subst hd
  refine (h.del s).eq fun x => ?_
  unfold midK
  rw [List.mem_filter, List.mem_filter, List.mem_filter]
  by_cases e : x = s
  · subst e
    simp [hs, key_eq]
  · simp [key_ne e, e]
theorem midK_stays {D : DataW Unit} {wth : Bool} {p : Pas} {ks : List (List UInt8)} {left : Lit → Bool} {s : List UInt8} (h : SetIs D (midK wth p ks left)) (hs : starK wth p s = false) :
    SetIs D (midK wth p ks (fun z => left z && !z.sameKey (.string s))) := by
  refine h.eq fun x => ?_
  unfold midK
  rw [List.mem_filter, List.mem_filter]
  by_cases e : x = s
  · subst e
    simp [hs]
  · simp [key_ne e]
theorem midK_mem {wth : Bool} {p : Pas} {ks : List (List UInt8)} {left : Lit → Bool} {s : List UInt8} (h : s ∈ midK wth p (ownK p ks) left) : s ∈ ks := by
  unfold midK ownK at h
  exact (List.mem_filter.1 (List.mem_filter.1 (List.mem_filter.1 h).1).1).1
theorem leftL_snoc (wth : Bool) (l : List Pas) (p : Pas) (ks : List (List UInt8)) : leftL wth (l ++ [p]) ks = (leftL wth l ks).filter (fun k => !gone wth p k) := by
  unfold leftL
  rw [List.foldl_append]
  rfl
theorem leftL_mem {wth : Bool} : ∀ {l : List Pas} {ks : List (List UInt8)} {s : List UInt8}, s ∈ leftL wth l ks → s ∈ ks := by
  intro l ks s h
  rw [left_eq] at h
  exact (List.mem_filter.1 h).1
/-- every key begins with m or h -/
theorem keys_head {simple : Bool} {m : List UInt8} {asked : List (List UInt8)} {s : List UInt8} (h : s ∈ keys0 simple m asked) : ∃ c r, s = c :: r := by
  unfold keys0 at h
  rcases List.mem_append.1 h with h | h
  · cases simple
    · simp at h; exact ⟨_, _, h⟩
    · simp at h
  · obtain ⟨x, _, rfl⟩ := List.mem_map.1 h
    exact ⟨_, _, rfl⟩
/-- the document's word is the program's -/
theorem covV_ref (r : Req) (ps : List Pass) : covV r ps = (leftL r.creds (ps.map pasV) (keys0 (simpleB (methodOf r.method)) (methodOf r.method).data.toList (askL (hdl r.heads)))).isEmpty := by
  unfold covV
  rw [← cov_same]
  rfl
/-- what stands while the call goes on: the request's box, the map -/
structure MapW (w : World) (r : Req) (B n : Nat) (ks : List (List UInt8)) (wr : World) : Prop where
  low : Below w.heap.size w wr
  box : Blk wr w.heap.size r.arr tReq
  new : w.heap.size < B
  map : ∃ D, wr.ownsMap Tryz.prog 9 (plainElem (H := Unit) Tryz.prog 4) B n D ∧ SetIs D ks
theorem MapW.later {w : World} {r : Req} {B n : Nat} {ks : List (List UInt8)} {wr wx : World} (h : MapW w r B n ks wr) (hb : Below wr.heap.size wr wx) : MapW w r B n ks wx := by
  obtain ⟨D, h1, h2⟩ := h.map
  exact ⟨h.low.then (Nat.le_refl _) hb, h.box.later hb, h.new, D, h1.kept (only_of_below hb none) (by simp), h2⟩
/-- the map alone has turned -/
theorem MapW.turn {w : World} {r : Req} {B n n' : Nat} {ks ks' : List (List UInt8)} {wr wx : World} {D : DataW Unit} (h : MapW w r B n ks wr) (hg : wr.grownBy wx (some B)) (ho : wx.ownsMap Tryz.prog 9 (plainElem (H := Unit) Tryz.prog 4) B n' D) (hs : SetIs D ks') : MapW w r B n' ks' wx := by
  obtain ⟨D0, h1, _⟩ := h.map
  have hn := h.new
  have hl := h1.lt
  exact ⟨h.low.grown hg (by omega) (fun k hk => by cases hk; omega), h.box.grown hg (fun e => by have := Option.some.inj e; omega), hn, D, ho, hs⟩
end Go.Proofs.YtnfcdccdmlodeaaGreatDoor
