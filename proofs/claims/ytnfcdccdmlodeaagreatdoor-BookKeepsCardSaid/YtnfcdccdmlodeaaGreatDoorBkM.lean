/- Merged out of BookR BookD LoP BookF BookG BookW. -/
import Derived.Test.YtnfcdccdmlodeaaGreatDoorRwP
import Derived.Test.YtnfcdccdmlodeaaGreatDoorBookC
import Derived.Test.YtnfcdccdmlodeaaGreatDoorNeeds
import Derived.Test.YtnfcdccdmlodeaaGreatDoorGrantF
import Derived.Test.YtnfcdccdmlodeaaGreatDoorBookP
import Derived.Deep.RegionHeld3
/- The program's book: what it is in memory; List, Copy, For, Covers. -/
namespace Go.Proofs.YtnfcdccdmlodeaaGreatDoor
open Go.RowKit Go.Deep
abbrev tBook : TypeId := 26
/-- block b is a book of these passes; what it is made of lies in blocks of S -/
structure BookR (w : World) (b : Nat) (S : Nat → Prop) (l : List Pass) : Prop where
  box : ∃ v, Blk w b #[v] tBook ∧ OwnG tPass 12 encPass w 0 v l ∧ ∀ g, v.ownBlock = some g → S g
  sb : S b
  bd : ∀ i, S i → i < w.heap.size
theorem BookR.kept {w w' : World} {b : Nat} {S S' : Nat → Prop} {l : List Pass} (h : BookR w b S l) (ho : Only S' w w') (hd : ∀ i, S i → ¬ S' i) : BookR w' b S l := by
  obtain ⟨v, h1, h2, h3⟩ := h.box
  exact ⟨⟨v, ho.blk h1 (hd b h.sb), h2.kept ho (fun g hg => hd g (h3 g hg)), h3⟩, h.sb, fun i hi => Nat.lt_of_lt_of_le (h.bd i hi) ho.size⟩
theorem BookR.later {w w' : World} {b : Nat} {S : Nat → Prop} {l : List Pass} (h : BookR w b S l) (hb : Below w.heap.size w w') : BookR w' b S l := h.kept (Only.of_below (S := fun _ => False) hb) (fun _ _ e => e)
theorem BookR.mono {w : World} {b : Nat} {S S' : Nat → Prop} {l : List Pass} (h : BookR w b S l) (hs : ∀ i, S i → S' i) (hd : ∀ i, S' i → i < w.heap.size) : BookR w b S' l := by
  obtain ⟨v, h1, h2, h3⟩ := h.box
  exact ⟨⟨v, h1, h2, fun g hg => hs g (h3 g hg)⟩, hs b h.sb, hd⟩
/-- the blocks that there are count alone -/
theorem BookR.cut {w : World} {b : Nat} {S S' : Nat → Prop} {l : List Pass} (h : BookR w b S l) (hs : ∀ i, S i → i < w.heap.size → S' i) (hd : ∀ i, S' i → i < w.heap.size) : BookR w b S' l := h.mono (fun i hi => hs i hi (h.bd i hi)) hd
set_option maxRecDepth 100000 in
theorem bookList (b : Nat) (S : Nat → Prop) (bk : List Pass) (w : World) (hB : BookR w b S bk) (hl : bk.length ≤ 100000) :
    Calls Tryz.prog 13 #[.pointer (some ⟨b, 0, none⟩)] w (ClonePostP bk w) := by
  obtain ⟨v, h1, h2, _⟩ := hB.box
  obtain ⟨a, cap, rfl, _⟩ := OwnG.shape encPass_len h2
  have hc := cloneP _ 0 bk w h2 (by omega)
  have c0 : _ = some (Value.slice a bk.length cap) := h1.cell 0 rfl
  clear h1 h2 hB
  go_enter Tryz.func13, Tryz.ntmps13
  go_wp2_with fail
  refine hc.mono ?_
  rintro e w1 ⟨v', rfl, hO, hBl⟩
  have hO' := Lib.hid hO
  clear hO
  go_wp2
  go_ret
  exact ⟨_, rfl, hO'.out, hBl⟩
def CopyPost (bk : List Pass) (w : World) (e : Ending) (w' : World) : Prop := ∃ b, e = .returned (.pointer (some ⟨b, 0, none⟩)) ∧ BookR w' b (fun i => w.heap.size ≤ i ∧ i < w'.heap.size) bk ∧ Below w.heap.size w w'
set_option maxRecDepth 100000 in
theorem bookCopy (b : Nat) (S : Nat → Prop) (bk : List Pass) (w : World) (hB : BookR w b S bk) (hl : bk.length ≤ 100000) :
    Calls Tryz.prog 18 #[.pointer (some ⟨b, 0, none⟩)] w (CopyPost bk w) := by
  have hc := bookList b S bk w hB hl
  clear hB
  go_enter Tryz.func18, Tryz.ntmps18
  go_wp2_with fail
  refine hc.mono ?_
  rintro e w1 ⟨v', rfl, hO, hBl⟩
  obtain ⟨a, cap, rfl, _⟩ := OwnG.shape encPass_len hO
  have hO' := Lib.hid hO
  have hs := hBl.size
  have hB2 := Lib.hid (hBl.alloc hs (.cells #[.slice a bk.length cap] tBook))
  clear hO
  go_wp2
  go_ret
  refine ⟨_, rfl, ⟨⟨_, Blk.new _ _ _, (OwnG.later hO'.out ((Below.refl _ _).alloc (Nat.le_refl _) _)).base (fun _ _ => Nat.zero_le _), ?_⟩, ?_, fun i hi => hi.2⟩, hB2.out⟩
  · intro g hg
    have := hO'.out.lt g hg
    exact ⟨this.1, by simp; omega⟩
  · exact ⟨hs, by simp⟩
def ForPost (l : List Pass) (w : World) (e : Ending) (w' : World) : Prop := (∃ v, e = .returned v ∧ OwnG tPass 12 encPass w' w.heap.size v l) ∧ Below w.heap.size w w'
end Go.Proofs.YtnfcdccdmlodeaaGreatDoor
/- The closures of the book, both sides. -/
namespace Go.Proofs.YtnfcdccdmlodeaaGreatDoor
open Go.RowKit Go.Deep
abbrev urlArr (o : Org) (a b : ByteArray) : Array Value := #[.bool o.sec, .string o.host, .int .i64 o.port, .string a, .string b]
/-- two URLs are one -/
def urlE (p : Pass) (r : Req) : Bool := orgE p.dest r.dest && (p.path.toList == r.path.toList) && (p.query.toList == r.query.toList)
set_option maxRecDepth 100000 in
theorem url_neq (o p : Org) (a b a' b' : ByteArray) (w : World) : (binOp .neq 31 (.agg #[.bool o.sec, .string o.host, .int .i64 o.port, .string a, .string b]) (.agg #[.bool p.sec, .string p.host, .int .i64 p.port, .string a', .string b'])).run Tryz.prog w = .ok (.bool (!(orgE o p && (a.toList == a'.toList) && (b.toList == b'.toList)))) w := by
  obtain ⟨s1, h1, p1⟩ := o
  obtain ⟨s1', h1', p1'⟩ := p
  have hr : (!(orgE ⟨s1, h1, p1⟩ ⟨s1', h1', p1'⟩ && (a.toList == a'.toList) && (b.toList == b'.toList))) = (!(s1 == s1') || (!(h1.toList == h1'.toList) || (!(p1 == p1') || (!(a.toList == a'.toList) || (!(b.toList == b'.toList) || false))))) := by
    unfold orgE
    simp only
    cases (s1 == s1') <;> cases (h1.toList == h1'.toList) <;> cases (p1 == p1') <;> cases (a.toList == a'.toList) <;> cases (b.toList == b'.toList) <;> rfl
  rw [hr]
  go_simp
  simp only [nestN, beq_dec, Bool.or_false]
theorem noGuardURL : Tryz.prog.eqGuardType Tryz.prog.depth 31 = false := by kernel_rfl
set_option maxRecDepth 100000 in
theorem pass_neq (p q : Pass) (w : World) : (binOp .neq tPass (.agg p.arr) (.agg q.arr)).run Tryz.prog w = .ok (.bool (!passEq p q)) w := by
  obtain ⟨⟨s1, h1, p1⟩, ⟨s2, h2, p2⟩, path, query, creds, m, h, u⟩ := p
  obtain ⟨⟨s1', h1', p1'⟩, ⟨s2', h2', p2'⟩, path', query', creds', m', h', u'⟩ := q
  have hr : (!passEq ⟨⟨s1, h1, p1⟩, ⟨s2, h2, p2⟩, path, query, creds, m, h, u⟩ ⟨⟨s1', h1', p1'⟩, ⟨s2', h2', p2'⟩, path', query', creds', m', h', u'⟩) = (!(s1 == s1') || (!(h1.toList == h1'.toList) || (!(p1 == p1') || (!(s2 == s2') || (!(h2.toList == h2'.toList) || (!(p2 == p2') || (!(path.toList == path'.toList) || (!(query.toList == query'.toList) || (!(creds == creds') || (!(m.toList == m'.toList) || (!(h.toList == h'.toList) || (!(u == u') || false)))))))))))) := by
    unfold passEq
    simp only [Bool.not_and, Bool.or_false, Bool.or_assoc]
  rw [hr]
  go_simp
  simp only [nestN, beq_dec, Bool.or_false]
set_option maxRecDepth 100000 in
set_option maxHeartbeats 2000000 in
/-- the program's Put$1: for the same as the one that is put -/
theorem passPut1 (x p : Pass) (q : Nat) (w : World) (hq : Blk w q p.arr tPass) :
    Calls Tryz.prog 26 #[.agg x.arr, .pointer (some ⟨q, 0, none⟩)] w fun e w' => e = .returned (.bool (likeB p x)) ∧ Below w.heap.size w w' := by
  have hal := (Below.refl w.heap.size w).alloc (Nat.le_refl _) (.cells x.arr tPass)
  have hq1 := hq.later hal
  have hx1 := Blk.new w x.arr tPass
  have hc := passLike p x (w.alloc (.cells x.arr tPass))
  have hH := Lib.hid hal
  generalize likeB p x = res at hc ⊢
  clear hq hal
  go_enter Tryz.func26, Tryz.ntmps26
  go_wp2_with (first
    | (refine wpList_load_blk rfl tPass _ rfl _ rfl hq1 _ Tryz.underlying79 rfl infoPass ?_)
    | (refine wpList_load_blk rfl tPass _ rfl _ rfl hx1 _ Tryz.underlying79 rfl infoPass ?_)
    | (refine hc.mono ?_; rintro e w1 ⟨rfl, hB1⟩))
  go_ret
  exact ⟨rfl, hH.out.then (Nat.le_refl _) hB1⟩
set_option maxRecDepth 100000 in
set_option maxHeartbeats 2000000 in
/-- the program's Put$2: what does not count now -/
theorem passPut2 (x : Pass) (now : Int) (q : Nat) (w : World) (hq : Blk w q #[.int .i64 now] 3) :
    Calls Tryz.prog 28 #[.agg x.arr, .pointer (some ⟨q, 0, none⟩)] w fun e w' => e = .returned (.bool (!decide (now < x.till))) ∧ Below w.heap.size w w' := by
  have hal := (Below.refl w.heap.size w).alloc (Nat.le_refl _) (.cells x.arr tPass)
  have c0 : _ = some (Value.int .i64 now) := (hq.later hal).cell 0 rfl
  have hx1 := Blk.new w x.arr tPass
  have hc := passAlive x now (w.alloc (.cells x.arr tPass))
  have hH := Lib.hid hal
  generalize decide (now < x.till) = res at hc ⊢
  clear hq hal
  go_enter Tryz.func28, Tryz.ntmps28
  go_wp2_with (first
    | (refine wpList_load_blk rfl tPass _ rfl _ rfl hx1 _ Tryz.underlying79 rfl infoPass ?_)
    | (refine hc.mono ?_; rintro e w1 ⟨rfl, hB1⟩))
  go_ret
  exact ⟨rfl, hH.out.then (Nat.le_refl _) hB1⟩
set_option maxRecDepth 100000 in
set_option maxHeartbeats 2000000 in
theorem passForget1 (x : Pass) (r : Req) (q : Nat) (w : World) (hq : Blk w q r.arr tReq) :
    Calls Tryz.prog 36 #[.agg x.arr, .pointer (some ⟨q, 0, none⟩)] w fun e w' => e = .returned (.bool (orgE x.orig r.orig && urlE x r)) ∧ Below w.heap.size w w' := by
  have hal := Lib.hid ((Below.refl w.heap.size w).alloc (Nat.le_refl _) (.cells x.arr tPass))
  have hq1 := hq.later hal.out
  have c1 : _ = some (Value.bool r.orig.sec) := hq1.cell 1 rfl
  have c2 : _ = some (Value.string r.orig.host) := hq1.cell 2 rfl
  have c3 : _ = some (Value.int .i64 r.orig.port) := hq1.cell 3 rfl
  have c4 : _ = some (Value.bool r.dest.sec) := hq1.cell 4 rfl
  have c5 : _ = some (Value.string r.dest.host) := hq1.cell 5 rfl
  have c6 : _ = some (Value.int .i64 r.dest.port) := hq1.cell 6 rfl
  have c7 : _ = some (Value.string r.path) := hq1.cell 7 rfl
  have c8 : _ = some (Value.string r.query) := hq1.cell 8 rfl
  have h1 := fun w => org_eql x.orig r.orig w
  have h2 : ∀ w, _ = Result.ok (Value.bool (urlE x r)) w := fun w => url_eql x.dest r.dest x.path x.query r.path r.query w
  clear hq hq1
  obtain ⟨⟨s1, g1, p1⟩, ⟨s2, g2, p2⟩, path, query, creds, m, h, u⟩ := x
  obtain ⟨part, ⟨so, ho, po⟩, ⟨sd, hd, pd⟩, path', query', method, ad, cp, heads, creds', body⟩ := r
  generalize orgE ⟨s1, g1, p1⟩ ⟨so, ho, po⟩ = r1 at h1 ⊢
  generalize urlE ⟨⟨s1, g1, p1⟩, ⟨s2, g2, p2⟩, path, query, creds, m, h, u⟩ ⟨part, ⟨so, ho, po⟩, ⟨sd, hd, pd⟩, path', query', method, ad, cp, heads, creds', body⟩ = r2 at h2 ⊢
  cases r1 <;> cases r2
  all_goals
    go_enter Tryz.func36, Tryz.ntmps36
    go_wp2_with (first
      | ((with_reducible show wpList _ _ _ ({ dst := _, op := Op.binOp _ _ _ _ _, type := _, pos := _, after := _, guard := _ } :: _) _ _); refine wpList_eql_agg _ rfl .eql 29 29 _ _ rfl #[.bool s1, .string g1, .int .i64 p1] #[.bool so, .string ho, .int .i64 po] (by rfl) (by rfl) noGuardOrg _ (h1 _) ?_)
      | ((with_reducible show wpList _ _ _ ({ dst := _, op := Op.binOp _ _ _ _ _, type := _, pos := _, after := _, guard := _ } :: _) _ _); refine wpList_eql_agg _ rfl .eql 31 31 _ _ rfl #[.bool s2, .string g2, .int .i64 p2, .string path, .string query] #[.bool sd, .string hd, .int .i64 pd, .string path', .string query'] (by rfl) (by rfl) noGuardURL _ (h2 _) ?_))
    go_ret
    exact ⟨rfl, hal.out⟩
set_option maxRecDepth 100000 in
set_option maxHeartbeats 2000000 in
theorem passSweep1 (x : Pass) (o : Org) (q : Nat) (w : World) (hq : Blk w q #[.bool o.sec, .string o.host, .int .i64 o.port] 29) :
    Calls Tryz.prog 38 #[.agg x.arr, .pointer (some ⟨q, 0, none⟩)] w fun e w' => e = .returned (.bool (orgE x.orig o || orgE x.dest o)) ∧ Below w.heap.size w w' := by
  have hal := Lib.hid ((Below.refl w.heap.size w).alloc (Nat.le_refl _) (.cells x.arr tPass))
  have hq1 := hq.later hal.out
  have c0 : _ = some (Value.bool o.sec) := hq1.cell 0 rfl
  have c1 : _ = some (Value.string o.host) := hq1.cell 1 rfl
  have c2 : _ = some (Value.int .i64 o.port) := hq1.cell 2 rfl
  have h1 := fun w => org_eql x.orig o w
  have h2 := fun w => org_eql x.dest o w
  clear hq hq1
  obtain ⟨⟨s1, g1, p1⟩, ⟨s2, g2, p2⟩, path, query, creds, m, h, u⟩ := x
  obtain ⟨so, ho, po⟩ := o
  generalize orgE ⟨s1, g1, p1⟩ ⟨so, ho, po⟩ = r1 at h1 ⊢
  generalize orgE ⟨s2, g2, p2⟩ ⟨so, ho, po⟩ = r2 at h2 ⊢
  cases r1 <;> cases r2
  all_goals
    go_enter Tryz.func38, Tryz.ntmps38
    go_wp2_with (first
      | ((with_reducible show wpList _ _ _ ({ dst := _, op := Op.binOp _ _ _ _ _, type := _, pos := _, after := _, guard := _ } :: _) _ _); refine wpList_eql_agg _ rfl .eql 29 29 _ _ rfl #[.bool s1, .string g1, .int .i64 p1] #[.bool so, .string ho, .int .i64 po] (by rfl) (by rfl) noGuardOrg _ (h1 _) ?_)
      | ((with_reducible show wpList _ _ _ ({ dst := _, op := Op.binOp _ _ _ _ _, type := _, pos := _, after := _, guard := _ } :: _) _ _); refine wpList_eql_agg _ rfl .eql 29 29 _ _ rfl #[.bool s2, .string g2, .int .i64 p2] #[.bool so, .string ho, .int .i64 po] (by rfl) (by rfl) noGuardOrg _ (h2 _) ?_))
    go_ret
    exact ⟨rfl, hal.out⟩
set_option maxRecDepth 100000 in
set_option maxHeartbeats 2000000 in
theorem refForget1 (x : Pass) (r : Req) (q : Nat) (w : World) (hq : Blk w q r.arr tReq) :
    Calls Tryz.prog 35 #[.agg x.arr, .pointer (some ⟨q, 0, none⟩)] w fun e w' => e = .returned (.bool (!(orgE x.orig r.orig && urlE x r))) ∧ Below w.heap.size w w' := by
  have hal := Lib.hid ((Below.refl w.heap.size w).alloc (Nat.le_refl _) (.cells x.arr tPass))
  have hq1 := hq.later hal.out
  have c1 : _ = some (Value.bool r.orig.sec) := hq1.cell 1 rfl
  have c2 : _ = some (Value.string r.orig.host) := hq1.cell 2 rfl
  have c3 : _ = some (Value.int .i64 r.orig.port) := hq1.cell 3 rfl
  have c4 : _ = some (Value.bool r.dest.sec) := hq1.cell 4 rfl
  have c5 : _ = some (Value.string r.dest.host) := hq1.cell 5 rfl
  have c6 : _ = some (Value.int .i64 r.dest.port) := hq1.cell 6 rfl
  have c7 : _ = some (Value.string r.path) := hq1.cell 7 rfl
  have c8 : _ = some (Value.string r.query) := hq1.cell 8 rfl
  have h1 := fun w => org_neq x.orig r.orig w
  have h2 : ∀ w, _ = Result.ok (Value.bool (!urlE x r)) w := fun w => url_neq x.dest r.dest x.path x.query r.path r.query w
  clear hq hq1
  obtain ⟨⟨s1, g1, p1⟩, ⟨s2, g2, p2⟩, path, query, creds, m, h, u⟩ := x
  obtain ⟨part, ⟨so, ho, po⟩, ⟨sd, hd, pd⟩, path', query', method, ad, cp, heads, creds', body⟩ := r
  generalize orgE ⟨s1, g1, p1⟩ ⟨so, ho, po⟩ = r1 at h1 ⊢
  generalize urlE ⟨⟨s1, g1, p1⟩, ⟨s2, g2, p2⟩, path, query, creds, m, h, u⟩ ⟨part, ⟨so, ho, po⟩, ⟨sd, hd, pd⟩, path', query', method, ad, cp, heads, creds', body⟩ = r2 at h2 ⊢
  cases r1 <;> cases r2
  all_goals
    go_enter Tryz.func35, Tryz.ntmps35
    go_wp2_with (first
      | ((with_reducible show wpList _ _ _ ({ dst := _, op := Op.binOp _ _ _ _ _, type := _, pos := _, after := _, guard := _ } :: _) _ _); refine wpList_eql_agg _ rfl .neq 29 29 _ _ rfl #[.bool s1, .string g1, .int .i64 p1] #[.bool so, .string ho, .int .i64 po] (by rfl) (by rfl) noGuardOrg _ (h1 _) ?_)
      | ((with_reducible show wpList _ _ _ ({ dst := _, op := Op.binOp _ _ _ _ _, type := _, pos := _, after := _, guard := _ } :: _) _ _); refine wpList_eql_agg _ rfl .neq 31 31 _ _ rfl #[.bool s2, .string g2, .int .i64 p2, .string path, .string query] #[.bool sd, .string hd, .int .i64 pd, .string path', .string query'] (by rfl) (by rfl) noGuardURL _ (h2 _) ?_))
    go_ret
    exact ⟨rfl, hal.out⟩
set_option maxRecDepth 100000 in
set_option maxHeartbeats 2000000 in
theorem refPut1 (x p : Pass) (q : Nat) (w : World) (hq : Blk w q p.arr tPass) :
    Calls Tryz.prog 32 #[.agg x.arr, .pointer (some ⟨q, 0, none⟩)] w fun e w' => e = .returned (.bool (!likeB p x)) ∧ Below w.heap.size w w' := by
  have hal := (Below.refl w.heap.size w).alloc (Nat.le_refl _) (.cells (x.until p.till).arr tPass)
  have hq1 := hq.later hal
  have cq : _ = some (Value.int .i64 p.till) := (hq.later ((Below.refl w.heap.size w).alloc (Nat.le_refl _) (.cells x.arr tPass))).cell 11 rfl
  have hx1 := Blk.new w (x.until p.till).arr tPass
  have hne := fun w => pass_neq (x.until p.till) p w
  rw [like_ref] at hne
  have hH := Lib.hid hal
  generalize likeB p x = res at hne ⊢
  clear hq hal
  go_enter Tryz.func32, Tryz.ntmps32
  go_wp2_with (first
    | (refine wpList_load_blk rfl tPass _ rfl _ rfl hq1 _ Tryz.underlying79 rfl infoPass ?_)
    | (refine wpList_load_blk rfl tPass _ rfl _ rfl hx1 _ Tryz.underlying79 rfl infoPass ?_)
    | ((with_reducible show wpList _ _ _ ({ dst := _, op := Op.binOp _ _ _ _ _, type := _, pos := _, after := _, guard := _ } :: _) _ _); refine wpList_eql_agg _ rfl .neq tPass tPass _ _ rfl (x.until p.till).arr p.arr (by rfl) (by rfl) noGuardPass _ (hne _) ?_))
  go_ret
  exact ⟨rfl, hH.out⟩
set_option maxRecDepth 100000 in
set_option maxHeartbeats 2000000 in
theorem refPut2 (x : Pass) (now : Int) (q : Nat) (w : World) (hq : Blk w q #[.int .i64 now] 3) :
    Calls Tryz.prog 33 #[.agg x.arr, .pointer (some ⟨q, 0, none⟩)] w fun e w' => e = .returned (.bool (decide (now < x.till))) ∧ Below w.heap.size w w' := by
  have hal := (Below.refl w.heap.size w).alloc (Nat.le_refl _) (.cells x.arr tPass)
  have c0 : _ = some (Value.int .i64 now) := (hq.later hal).cell 0 rfl
  have hH := Lib.hid hal
  clear hq hal
  go_enter Tryz.func33, Tryz.ntmps33
  go_wp2
  go_ret
  exact ⟨rfl, hH.out⟩
/-- whether a pass counts for a request now -/
def forB (r : Req) (now : Int) (p : Pass) : Bool := decide (now < p.till) && orgE p.orig r.orig && urlE p r && (p.creds || !r.creds)
theorem bookFor_eq (r : Req) (now : Int) (b : List Pass) : bookFor r now b = b.filter (forB r now) := rfl
theorem bookForget_eq (r : Req) (b : List Pass) : bookForget r b = b.filter (fun p => !(orgE p.orig r.orig && urlE p r)) := rfl
set_option maxRecDepth 100000 in
set_option maxHeartbeats 4000000 in
theorem refFor1 (x : Pass) (r : Req) (now : Int) (q n : Nat) (w : World) (hq : Blk w q r.arr tReq) (hn : Blk w n #[.int .i64 now] 3) :
    Calls Tryz.prog 40 #[.agg x.arr, .pointer (some ⟨n, 0, none⟩), .pointer (some ⟨q, 0, none⟩)] w fun e w' => e = .returned (.bool (forB r now x)) ∧ Below w.heap.size w w' := by
  have hal := Lib.hid ((Below.refl w.heap.size w).alloc (Nat.le_refl _) (.cells x.arr tPass))
  have hq1 := hq.later hal.out
  have cn : _ = some (Value.int .i64 now) := (hn.later hal.out).cell 0 rfl
  have c1 : _ = some (Value.bool r.orig.sec) := hq1.cell 1 rfl
  have c2 : _ = some (Value.string r.orig.host) := hq1.cell 2 rfl
  have c3 : _ = some (Value.int .i64 r.orig.port) := hq1.cell 3 rfl
  have c4 : _ = some (Value.bool r.dest.sec) := hq1.cell 4 rfl
  have c5 : _ = some (Value.string r.dest.host) := hq1.cell 5 rfl
  have c6 : _ = some (Value.int .i64 r.dest.port) := hq1.cell 6 rfl
  have c7 : _ = some (Value.string r.path) := hq1.cell 7 rfl
  have c8 : _ = some (Value.string r.query) := hq1.cell 8 rfl
  have c11 : _ = some (Value.bool r.creds) := hq1.cell 11 rfl
  have h1 := fun w => org_eql x.orig r.orig w
  have h2 : ∀ w, _ = Result.ok (Value.bool (urlE x r)) w := fun w => url_eql x.dest r.dest x.path x.query r.path r.query w
  unfold forB
  clear hq hq1 hn
  obtain ⟨⟨s1, g1, p1⟩, ⟨s2, g2, p2⟩, path, query, creds, m, h, u⟩ := x
  obtain ⟨part, ⟨so, ho, po⟩, ⟨sd, hd, pd⟩, path', query', method, ad, cp, heads, creds', body⟩ := r
  generalize orgE ⟨s1, g1, p1⟩ ⟨so, ho, po⟩ = r1 at h1 ⊢
  generalize urlE ⟨⟨s1, g1, p1⟩, ⟨s2, g2, p2⟩, path, query, creds, m, h, u⟩ ⟨part, ⟨so, ho, po⟩, ⟨sd, hd, pd⟩, path', query', method, ad, cp, heads, creds', body⟩ = r2 at h2 ⊢
  simp only
  have hcase : (decide (now < u) = false ∨ decide (now < u) = true ∧ (r1 = false ∨ r1 = true ∧ (r2 = false ∨ r2 = true ∧ (creds' = false ∨ creds' = true)))) := by
    cases decide (now < u) <;> cases r1 <;> cases r2 <;> cases creds' <;> simp
  rcases hcase with ht | ⟨ht, rfl | ⟨rfl, rfl | ⟨rfl, rfl | rfl⟩⟩⟩
  all_goals
    go_enter Tryz.func40, Tryz.ntmps40
    go_wp2_with (first
      | ((with_reducible show wpList _ _ _ ({ dst := _, op := Op.binOp _ _ _ _ _, type := _, pos := _, after := _, guard := _ } :: _) _ _); refine wpList_eql_agg _ rfl .eql 29 29 _ _ rfl #[.bool s1, .string g1, .int .i64 p1] #[.bool so, .string ho, .int .i64 po] (by rfl) (by rfl) noGuardOrg _ (h1 _) ?_)
      | ((with_reducible show wpList _ _ _ ({ dst := _, op := Op.binOp _ _ _ _ _, type := _, pos := _, after := _, guard := _ } :: _) _ _); refine wpList_eql_agg _ rfl .eql 31 31 _ _ rfl #[.bool s2, .string g2, .int .i64 p2, .string path, .string query] #[.bool sd, .string hd, .int .i64 pd, .string path', .string query'] (by rfl) (by rfl) noGuardURL _ (h2 _) ?_))
    go_ret
    exact ⟨by first | rfl | (simp [ht]), hal.out⟩
end Go.Proofs.YtnfcdccdmlodeaaGreatDoor
/- The reference's lastOf at Pass. (printed by tools/gen_rows.py) -/
namespace Go.Proofs.YtnfcdccdmlodeaaGreatDoor
open Go.RowKit Go.Deep
theorem wholeLP : (Tryz.prog.info? 79).map (fun i => (i.zero, i.size, i.bytes)) = some (some (.agg zPass), 12, 144) := by kernel_rfl
def LastPostP (base k : Nat) (l : List Pass) (w : World) (e : Ending) (w' : World) : Prop := (∃ v', e = .returned v' ∧ OwnG 79 12 encPass w' base v' (lastB k l)) ∧ Below w.heap.size w w'
set_option maxRecDepth 100000 in
set_option maxHeartbeats 4000000 in
theorem lastOfP (k : Nat) (base : Nat) (v : Value) (l : List Pass) (w : World) (hO : OwnG 79 12 encPass w base v l) (hb : base ≤ w.heap.size) (hl : l.length ≤ 1048576) (hk : k ≤ 1000) :
    Calls Tryz.prog 34 #[v, .int .i64 (k : Int)] w (LastPostP base k l w) := by
  have hOH := Lib.hid hO
  rcases RowB.of_own encPass_len hO with ⟨rfl, rfl⟩ | ⟨g0, cap, rfl, hb0, hR⟩
  · clear hO
    go_enter Tryz.func34, Tryz.ntmps34
    go_wp2
    go_ret
    exact ⟨⟨_, rfl, by rw [show lastB k ([] : List Pass) = [] by unfold lastB; simp]; exact hOH.out⟩, Below.refl _ _⟩
  · have hlc := hR.len
    have hcm := hR.cap_
    unfold maxLen at hcm
    by_cases hn : k < l.length
    · obtain ⟨i0, hi, hz0, hz1, hz2⟩ := info_parts wholeLP
      have hkl : l.length - k < cap ∨ l.length - k = cap := by omega
      obtain ⟨A, hA, hsrc⟩ : ∃ A : Addr, (if cap = l.length - k then some (⟨g0, 0, none⟩ : Addr) else some ⟨g0, (l.length - k) * 12, none⟩) = some A ∧ Hid (∀ t u, ((l.drop (l.length - k)).flatMap encPass)[t]? = some u → w.cell? (A.add t) = some u) := by
        by_cases h : cap = l.length - k
        · refine ⟨⟨g0, 0, none⟩, by simp [h], fun t u hu => ?_⟩
          rw [List.drop_eq_nil_of_le (by omega)] at hu
          simp at hu
        · refine ⟨⟨g0, (l.length - k) * 12, none⟩, by simp [h], fun t u hu => ?_⟩
          have hdl : (l.drop (l.length - k)).length = k := by rw [List.length_drop]; omega
          have ht : t < k * 12 := by rw [← hdl, ← flat_len encPass_len]; exact (List.getElem?_eq_some_iff.1 hu).1
          have h1 : t / 12 < k := Nat.div_lt_of_lt_mul (by rw [Nat.mul_comm]; exact ht)
          have h2 : t % 12 < 12 := Nat.mod_lt _ (by decide)
          have h3 : t = t / 12 * 12 + t % 12 := by rw [Nat.mul_comm]; exact (Nat.div_add_mod t 12).symm
          rw [h3, flat_at encPass_len _ (t / 12) (t % 12) (by rw [hdl]; exact h1) h2] at hu
          rw [Addr.add_mid, show (l.length - k) * 12 + t = (l.length - k + t / 12) * 12 + t % 12 by rw [Nat.add_mul]; omega]
          refine hR.cell (l.length - k + t / 12) (by omega) (t % 12) u ?_
          rw [← hu]
          congr 1
          rw [List.getElem_drop]
      have s1 := Lib.hid (show ((l.drop (l.length - k)).flatMap encPass).length = (l.length - (l.length - k)) * 12 by rw [flat_len encPass_len, List.length_drop])
      have s2 : Hid (∀ u ∈ (l.drop (l.length - k)).flatMap encPass, u.oneCell' = true) := by
        intro u hu
        rw [List.mem_flatMap] at hu
        obtain ⟨x, _, hx⟩ := hu
        exact encPass_one x u hx
      have hnil := Lib.hid (World.ownsRow_nil w w.heap.size 79 12)
      have hl1 : 0 + (l.length - (l.length - k)) ≤ maxLen := by unfold maxLen; omega
      have hl2 : (0 + (l.length - (l.length - k))) * 144 ≤ 140737488355328 := by omega
      clear hR hO
      go_enter Tryz.func34, Tryz.ntmps34
      go_wp2_with (at_builtin; refine wpList_append_own _ rfl _ _ 24 rfl w.heap.size 79 i0 (.agg zPass) 12 144 Tryz.underlying24 hi hz0 hz1 hz2 rfl (by decide) (.slice none 0 0) 0 [] (by rfl) hnil.out A (l.length - (l.length - k)) (cap - (l.length - k)) ((l.drop (l.length - k)).flatMap encPass) (by first | rfl | (simp [Act.eval, Act.put]; done)) s1.out hsrc.out s2.out hl1 hl2 (Nat.le_refl _) ?_; intro v' w' hown' hgrow _)
      have hB2 := Lib.hid ((Below.refl w.heap.size w).grown hgrow (Nat.le_refl _) (fun k hk => by cases hk))
      have hown2 : OwnG 79 12 encPass w' w.heap.size v' (l.drop (l.length - k)) := by
        have h := hown'
        rw [List.nil_append] at h
        simpa [OwnG] using h
      have hownH := Lib.hid (hown2.base (B' := base) (fun g hg => Nat.le_trans hb (hown2.lt g hg).1))
      clear hown2 hown' hgrow
      go_wp2
      go_ret
      exact ⟨⟨_, rfl, hownH.out⟩, hB2.out⟩
    · have hlast := Lib.hid (show lastB k l = l by unfold lastB; rw [Nat.sub_eq_zero_of_le (by omega)]; rfl)
      clear hR hO
      go_enter Tryz.func34, Tryz.ntmps34
      go_wp2
      go_ret
      exact ⟨⟨_, rfl, by rw [hlast.out]; exact hOH.out⟩, Below.refl _ _⟩
end Go.Proofs.YtnfcdccdmlodeaaGreatDoor
/- The program's book: For, Covers. -/
namespace Go.Proofs.YtnfcdccdmlodeaaGreatDoor
set_option linter.unusedSimpArgs false
open Go.RowKit Go.Deep
theorem req_cells {w : World} {q : Nat} {r : Req} (h : Blk w q r.arr tReq) : w.cell? ⟨q, 1, none⟩ = some (.bool r.orig.sec) ∧ w.cell? ⟨q, 2, none⟩ = some (.string r.orig.host) ∧ w.cell? ⟨q, 3, none⟩ = some (.int .i64 r.orig.port) ∧ w.cell? ⟨q, 4, none⟩ = some (.bool r.dest.sec) ∧ w.cell? ⟨q, 5, none⟩ = some (.string r.dest.host) ∧ w.cell? ⟨q, 6, none⟩ = some (.int .i64 r.dest.port) ∧ w.cell? ⟨q, 7, none⟩ = some (.string r.path) ∧ w.cell? ⟨q, 8, none⟩ = some (.string r.query) ∧ w.cell? ⟨q, 11, none⟩ = some (.bool r.creds) :=
  ⟨h.cell 1 rfl, h.cell 2 rfl, h.cell 3 rfl, h.cell 4 rfl, h.cell 5 rfl, h.cell 6 rfl, h.cell 7 rfl, h.cell 8 rfl, h.cell 11 rfl⟩
theorem pass_cells {w : World} {q : Nat} {x : Pass} (h : Blk w q x.arr tPass) : w.cell? ⟨q, 0, none⟩ = some (.bool x.orig.sec) ∧ w.cell? ⟨q, 1, none⟩ = some (.string x.orig.host) ∧ w.cell? ⟨q, 2, none⟩ = some (.int .i64 x.orig.port) ∧ w.cell? ⟨q, 3, none⟩ = some (.bool x.dest.sec) ∧ w.cell? ⟨q, 4, none⟩ = some (.string x.dest.host) ∧ w.cell? ⟨q, 5, none⟩ = some (.int .i64 x.dest.port) ∧ w.cell? ⟨q, 6, none⟩ = some (.string x.path) ∧ w.cell? ⟨q, 7, none⟩ = some (.string x.query) ∧ w.cell? ⟨q, 8, none⟩ = some (.bool x.creds) :=
  ⟨h.cell 0 rfl, h.cell 1 rfl, h.cell 2 rfl, h.cell 3 rfl, h.cell 4 rfl, h.cell 5 rfl, h.cell 6 rfl, h.cell 7 rfl, h.cell 8 rfl⟩
theorem for_all {t a u c r b : Bool} (h : (t && a && u && (c || !r)) = b) : (t = false ∧ b = false) ∨ t = true ∧ ((a = false ∧ b = false) ∨ a = true ∧ ((u = false ∧ b = false) ∨ u = true ∧ ((c = false ∧ r = true ∧ b = false) ∨ (c = true ∧ b = true) ∨ (c = false ∧ r = false ∧ b = true)))) := by
  revert h; cases t <;> cases a <;> cases u <;> cases c <;> cases r <;> cases b <;> decide
set_option maxRecDepth 100000 in
set_option maxHeartbeats 2000000 in
theorem bookForP (b : Nat) (S : Nat → Prop) (bk : List Pass) (r : Req) (now : Int) (w : World) (hB : BookR w b S bk) (hl : bk.length ≤ 100000) :
    Calls Tryz.prog 14 #[.pointer (some ⟨b, 0, none⟩), .agg r.arr, .int .i64 now] w (ForPost (bookFor r now bk) w) := by
  obtain ⟨v, hv, hO, _⟩ := hB.box
  obtain ⟨a1, cap1, rfl, hrow, _⟩ := OwnG.shape encPass_len hO
  have hal := (Below.refl w.heap.size w).alloc (Nat.le_refl _) (.cells r.arr tReq)
  have c0 : _ = some (Value.slice a1 bk.length cap1) := (hv.later hal).cell 0 rfl
  have hq0 := Lib.hid (Blk.new w r.arr tReq)
  have hB0 := Lib.hid hal
  have hrH := Lib.hid hrow
  have hsz0 : w.heap.size < (w.alloc (.cells r.arr tReq)).heap.size := by simp
  rw [bookFor_eq]
  clear hB hO hv hal hrow
  go_enter Tryz.func14, Tryz.ntmps14
  go_wp2
  go_loopw [7, 9, 15] (fun vl _ vi wr => ∃ k : Nat, k ≤ bk.length ∧ vi = .int .i64 k ∧ Hid (OwnG tPass 12 encPass wr w.heap.size vl ((bk.take k).filter (forB r now))) ∧ Hid (Below w.heap.size w wr) ∧ Hid (Blk wr w.heap.size r.arr tReq)) (fun _ _ vi _ => bk.length - (intOf vi).toNat)
  case atStart => exact ⟨0, Nat.zero_le _, rfl, Lib.hid (OwnG.nil _ _), hB0, hq0⟩
  case round =>
    obtain ⟨k, hk, rfl, hO, hB, hq⟩ := hrel
    obtain ⟨a5, cap5, rfl, hs5⟩ := OwnG.shape encPass_len hO.out
    clear hs5
    by_cases hlt : k < bk.length
    · obtain ⟨pb, po, rfl, hc⟩ := (hrH.out.later hB.out) k hlt
      have hrg : wr.rangeAt pb (po + k * 12) (encPass bk[k]) := hc
      have hy := Lib.hid (filter_yes (f := forB r now) hlt)
      have hn := Lib.hid (filter_no (f := forB r now) hlt)
      have hlen : ((bk.take k).filter (forB r now)).length ≤ 100000 := Nat.le_trans (List.length_filter_le _ _) (by rw [List.length_take]; omega)
      have hZ := Blk.new wr zPass tPass
      have hbs := hB.out.size
      have hgp := hq.out.lt
      clear hc
      generalize bk[k] = x at hrg hy hn
      generalize (bk.take k).filter (forB r now) = acc at hO hy hn hlen
      have hl1 : acc.length + 1 ≤ maxLen := by unfold maxLen; omega
      have hl2 : (acc.length + 1) * 144 ≤ 140737488355328 := by omega
      have hpk := fun wa => passAlive x now wa
      have h1 := fun w => org_eql x.orig r.orig w
      have h2 : ∀ w, _ = Result.ok (Value.bool (urlE x r)) w := fun w => url_eql x.dest r.dest x.path x.query r.path r.query w
      have hfd : forB r now x = (decide (now < x.till) && orgE x.orig r.orig && urlE x r && (x.creds || !r.creds)) := rfl
      go_upto_region 5 with (first
        | (refine wpList_load_mid rfl tPass _ rfl pb (po + k * 12) rfl (encPass x) _ hrg Tryz.underlying79 rfl infoPass ?_)
        | (refine wpList_store_blk rfl tPass _ _ rfl _ rfl hZ x.arr rfl rfl infoPass (pass_one x) ?_; intro wa hpas hga))
      have hBa := Lib.hid (below_only (hB.out.alloc hbs (.cells zPass tPass)) hga (by simp; omega) hbs)
      have hOa := Lib.hid (own_row_kept (OwnG.later hO.out ((Below.refl _ _).alloc (Nat.le_refl _) (.cells zPass tPass))) hga (own_fresh hO.out))
      have hqa := (hq.out.alloc (.cells zPass tPass)).grown hga (fun e => by have := Option.some.inj e; omega)
      clear hga hrg hZ
      obtain ⟨bb, hbb⟩ : ∃ bb, forB r now x = bb := ⟨_, rfl⟩
      go_frame
      go_cut [44] (fun v wx => v = .bool bb ∧ Hid (Below wa.heap.size wa wx))
      case first =>
        rw [hfd] at hbb
        clear hfd hn hy hl1 hl2 hlen hbs hgp hk
        have hcs : (decide (now < x.till) = false ∧ bb = false) ∨ decide (now < x.till) = true ∧ ((orgE x.orig r.orig = false ∧ bb = false) ∨ orgE x.orig r.orig = true ∧ ((urlE x r = false ∧ bb = false) ∨ urlE x r = true ∧ ((x.creds = false ∧ r.creds = true ∧ bb = false) ∨ (x.creds = true ∧ bb = true) ∨ (x.creds = false ∧ r.creds = false ∧ bb = true)))) := for_all hbb
        clear hbb
        rcases hcs with ⟨ht, rfl⟩ | ⟨ht, ⟨hr1, rfl⟩ | ⟨hr1, ⟨hr2, rfl⟩ | ⟨hr2, ⟨hpc, hrc, rfl⟩ | ⟨hpc, rfl⟩ | ⟨hpc, hrc, rfl⟩⟩⟩⟩
        all_goals
          simp only [ht] at hpk
          try simp only [hr1] at h1
          try simp only [hr2] at h2
          clear ht
          try clear hr1
          try clear hr2
          go_wp2_with (refine wpList_load_blk rfl tPass _ rfl _ rfl hpas _ Tryz.underlying79 rfl infoPass ?_)
          refine (hpk wa).mono ?_
          rintro e w2 ⟨rfl, hB2⟩
          obtain ⟨d0, d1, d2, d3, d4, d5, d6, d7, d8⟩ := pass_cells (hpas.later hB2)
          obtain ⟨e1, e2, e3, e4, e5, e6, e7, e8, e11⟩ := req_cells (hqa.later hB2)
          have hB2h := Lib.hid hB2
          clear hB2
          (try dsimp only)
          (repeat (first
            | (go_big_may; (with_reducible show wpList _ _ _ ({ dst := _, op := Op.binOp _ _ _ _ _, type := _, pos := _, after := _, guard := _ } :: _) _ _); refine wpList_eql_agg _ (by rfl) .eql 29 29 _ _ (by rfl) #[.bool x.orig.sec, .string x.orig.host, .int .i64 x.orig.port] #[.bool r.orig.sec, .string r.orig.host, .int .i64 r.orig.port] (by rfl) (by rfl) noGuardOrg _ (h1 _) ?_)
            | (go_big_may; (with_reducible show wpList _ _ _ ({ dst := _, op := Op.binOp _ _ _ _ _, type := _, pos := _, after := _, guard := _ } :: _) _ _); refine wpList_eql_agg _ (by rfl) .eql 31 31 _ _ (by rfl) #[.bool x.dest.sec, .string x.dest.host, .int .i64 x.dest.port, .string x.path, .string x.query] #[.bool r.dest.sec, .string r.dest.host, .int .i64 r.dest.port, .string r.path, .string r.query] (by rfl) (by rfl) noGuardURL _ (h2 _) ?_)
            | go_values | go_skip | go_guarded | go_step | go_upon))
          go_meet
          exact ⟨rfl, hB2h⟩
      case rest =>
        obtain ⟨rfl, hB2h⟩ := hcut
        have hB2 := hB2h.out
        have hB3 := Lib.hid (hBa.out.then (Nat.le_refl _) hB2)
        have hq2 := hqa.later hB2
        have hO2 := OwnG.later hOa.out hB2
        have hpas2 := hpas.later hB2
        have hbs3 := hB3.out.size
        clear h1 h2 hpk hfd hB2
        cases bb
        · have hn' := Lib.hid (hn.out hbb)
          have hO2' := Lib.hid hO2
          have hq3 := Lib.hid hq2
          clear hO2 hq2 hpas2
          go_wp2
          go_roundw
          case rel => exact ⟨k + 1, by omega, by go_num, Lib.hid (by rw [hn'.out]; exact hO2'.out), hB3, hq3⟩
          case measure => simp [intOf]; omega
        · have hy' := Lib.hid (hy.out hbb)
          go_wp2_with (first
            | (refine wpList_load_blk rfl tPass _ rfl _ rfl hpas2 _ Tryz.underlying79 rfl infoPass ?_)
            | (at_builtin; refine wpList_append_one bytesPass' Tryz.underlying24 (by rfl) (by decide) encPass_len (by rfl) _ _ (by rfl) _ w.heap.size (.slice a5 acc.length cap5) acc (by rfl) hO2 x (encPass_one _) _ (by rfl) _ (by rfl) (by rfl) hl1 hl2 hbs3 ?_; intro v4 w4 hO4 hG4 hne4))
          have hB4 := Lib.hid (below_append hB3.out hO2 hG4 hB3.out.size)
          have hq4 := Lib.hid ((hq2.alloc (.cells x.arr tPass)).grown hG4 (fun e => hO2.apart (T' := tReq) (by decide) hq2 e))
          have hO4' := Lib.hid hO4
          go_roundw
          case rel => exact ⟨k + 1, by omega, by go_num, Lib.hid (by rw [hy'.out]; exact hO4'.out), hB4, hq4⟩
          case measure => simp [intOf]; omega
    · obtain rfl : bk.length = k := by omega
      have hf := hO
      rw [List.take_length] at hf ⊢
      go_wp2
      go_ret
      exact ⟨⟨_, rfl, hf.out⟩, hB.out⟩
def coversV (r : Req) (now : Int) (bk : List Pass) : Bool := !needV r || covV r (bookFor r now bk)
end Go.Proofs.YtnfcdccdmlodeaaGreatDoor
/- The reference's book: Put, Forget, Sweep, For. -/
namespace Go.Proofs.YtnfcdccdmlodeaaGreatDoor
set_option linter.unusedSimpArgs false
open Go.RowKit Go.Deep
set_option maxRecDepth 100000 in
set_option maxHeartbeats 4000000 in
theorem refBookForget (a : Option Addr) (cap : Nat) (bk : List Pass) (r : Req) (w : World) (hP : PassAt w a bk) (hl : bk.length ≤ 100000) :
    Calls Tryz.prog 8 #[.slice a bk.length cap, .agg r.arr] w (ForPost (bookForget r bk) w) := by
  have hal := (Below.refl w.heap.size w).alloc (Nat.le_refl _) (.cells r.arr tReq)
  have hsm : Calls Tryz.prog 31 #[.slice a bk.length cap, .func (.func 35) #[] #[.pointer (some ⟨w.heap.size, 0, none⟩)]] (w.alloc (.cells r.arr tReq)) fun e w' => (∃ v, e = .returned v ∧ OwnG tPass 12 encPass w' (w.alloc (.cells r.arr tReq)).heap.size v (bk.filter (fun x => !(orgE x.orig r.orig && urlE x r)))) ∧ Below (w.alloc (.cells r.arr tReq)).heap.size (w.alloc (.cells r.arr tReq)) w' := by
    refine bookSome 35 #[.pointer (some ⟨w.heap.size, 0, none⟩)] (fun x => !(orgE x.orig r.orig && urlE x r)) a cap bk _ (hP.later hal) (by omega) (fun _ _ => rfl) ?_
    intro W y hb _
    exact refForget1 y r w.heap.size W ((Blk.new w r.arr tReq).later hb)
  have hB0 := Lib.hid hal
  have hr := Lib.hid (show bookForget r bk = bk.filter (fun x => !(orgE x.orig r.orig && urlE x r)) from rfl)
  clear hP hal
  generalize bk.filter (fun x => !(orgE x.orig r.orig && urlE x r)) = l2 at hsm hr
  go_enter Tryz.func8, Tryz.ntmps8
  go_wp2_with fail
  refine hsm.mono ?_
  rintro e w2 ⟨⟨v, rfl, hO⟩, hB⟩
  have hO2 := Lib.hid (hO.base (B' := w.heap.size) (fun g hg => Nat.le_trans hB0.out.size (hO.lt g hg).1))
  have hB2 := Lib.hid (hB0.out.then (Nat.le_refl _) hB)
  clear hO hB hsm
  go_wp2
  go_ret
  exact ⟨⟨_, rfl, by rw [hr.out]; exact hO2.out⟩, hB2.out⟩
set_option maxRecDepth 100000 in
set_option maxHeartbeats 4000000 in
theorem refBookSweep (a : Option Addr) (cap : Nat) (bk : List Pass) (o : Org) (w : World) (hP : PassAt w a bk) (hl : bk.length ≤ 100000) :
    Calls Tryz.prog 10 #[.slice a bk.length cap, .agg #[.bool o.sec, .string o.host, .int .i64 o.port]] w (ForPost (bookSweep o bk) w) := by
  have hal := (Below.refl w.heap.size w).alloc (Nat.le_refl _) (.cells #[.bool o.sec, .string o.host, .int .i64 o.port] 29)
  have hsm : Calls Tryz.prog 31 #[.slice a bk.length cap, .func (.func 37) #[] #[.pointer (some ⟨w.heap.size, 0, none⟩)]] (w.alloc (.cells #[.bool o.sec, .string o.host, .int .i64 o.port] 29)) fun e w' => (∃ v, e = .returned v ∧ OwnG tPass 12 encPass w' (w.alloc (.cells #[.bool o.sec, .string o.host, .int .i64 o.port] 29)).heap.size v (bk.filter (fun x => !(orgE x.orig o || orgE x.dest o)))) ∧ Below (w.alloc (.cells #[.bool o.sec, .string o.host, .int .i64 o.port] 29)).heap.size (w.alloc (.cells #[.bool o.sec, .string o.host, .int .i64 o.port] 29)) w' := by
    refine bookSome 37 #[.pointer (some ⟨w.heap.size, 0, none⟩)] (fun x => !(orgE x.orig o || orgE x.dest o)) a cap bk _ (hP.later hal) (by omega) (fun _ _ => rfl) ?_
    intro W y hb _
    exact refSweep1 y o w.heap.size W ((Blk.new w #[.bool o.sec, .string o.host, .int .i64 o.port] 29).later hb)
  have hB0 := Lib.hid hal
  have hr := Lib.hid (show bookSweep o bk = bk.filter (fun x => !(orgE x.orig o || orgE x.dest o)) from rfl)
  clear hP hal
  generalize bk.filter (fun x => !(orgE x.orig o || orgE x.dest o)) = l2 at hsm hr
  go_enter Tryz.func10, Tryz.ntmps10
  go_wp2_with fail
  refine hsm.mono ?_
  rintro e w2 ⟨⟨v, rfl, hO⟩, hB⟩
  have hO2 := Lib.hid (hO.base (B' := w.heap.size) (fun g hg => Nat.le_trans hB0.out.size (hO.lt g hg).1))
  have hB2 := Lib.hid (hB0.out.then (Nat.le_refl _) hB)
  clear hO hB hsm
  go_wp2
  go_ret
  exact ⟨⟨_, rfl, by rw [hr.out]; exact hO2.out⟩, hB2.out⟩
set_option maxRecDepth 100000 in
set_option maxHeartbeats 4000000 in
theorem refBookFor (a : Option Addr) (cap : Nat) (bk : List Pass) (r : Req) (now : Int) (w : World) (hP : PassAt w a bk) (hl : bk.length ≤ 100000) :
    Calls Tryz.prog 15 #[.slice a bk.length cap, .agg r.arr, .int .i64 now] w (ForPost (bookFor r now bk) w) := by
  have hal := ((Below.refl w.heap.size w).alloc (Nat.le_refl _) (.cells r.arr tReq)).alloc (by simp) (.cells #[.int .i64 now] 3)
  have hsm : Calls Tryz.prog 31 #[.slice a bk.length cap, .func (.func 40) #[] #[.pointer (some ⟨w.heap.size + 1, 0, none⟩), .pointer (some ⟨w.heap.size, 0, none⟩)]] ((w.alloc (.cells r.arr tReq)).alloc (.cells #[.int .i64 now] 3)) fun e w' => (∃ v, e = .returned v ∧ OwnG tPass 12 encPass w' ((w.alloc (.cells r.arr tReq)).alloc (.cells #[.int .i64 now] 3)).heap.size v (bk.filter (fun x => forB r now x))) ∧ Below ((w.alloc (.cells r.arr tReq)).alloc (.cells #[.int .i64 now] 3)).heap.size ((w.alloc (.cells r.arr tReq)).alloc (.cells #[.int .i64 now] 3)) w' := by
    refine bookSome 40 #[.pointer (some ⟨w.heap.size + 1, 0, none⟩), .pointer (some ⟨w.heap.size, 0, none⟩)] (fun x => forB r now x) a cap bk _ (hP.later hal) (by omega) (fun _ _ => rfl) ?_
    intro W y hb _
    exact refFor1 y r now w.heap.size (w.heap.size + 1) W (((Blk.new w r.arr tReq).alloc _).later hb) ((show Blk ((w.alloc (.cells r.arr tReq)).alloc (.cells #[.int .i64 now] 3)) (w.heap.size + 1) #[.int .i64 now] 3 from by have := Blk.new (w.alloc (.cells r.arr tReq)) #[.int .i64 now] 3; rwa [World.size_alloc] at this).later hb)
  have hB0 := Lib.hid hal
  have hr := Lib.hid (show bookFor r now bk = bk.filter (fun x => forB r now x) from rfl)
  clear hP hal
  generalize bk.filter (fun x => forB r now x) = l2 at hsm hr
  go_enter Tryz.func15, Tryz.ntmps15
  go_wp2_with fail
  refine hsm.mono ?_
  rintro e w2 ⟨⟨v, rfl, hO⟩, hB⟩
  have hO2 := Lib.hid (hO.base (B' := w.heap.size) (fun g hg => Nat.le_trans hB0.out.size (hO.lt g hg).1))
  have hB2 := Lib.hid (hB0.out.then (Nat.le_refl _) hB)
  clear hO hB hsm
  go_wp2
  go_ret
  exact ⟨⟨_, rfl, by rw [hr.out]; exact hO2.out⟩, hB2.out⟩
set_option maxRecDepth 100000 in
set_option maxHeartbeats 8000000 in
theorem refBookPut (a0 : Option Addr) (cap0 : Nat) (bk : List Pass) (a : Option Addr) (cap : Nat) (ps : List Pass) (now : Int) (w : World) (hB : PassAt w a0 bk) (hP : PassAt w a ps) (hl : bk.length ≤ 100000) (hl2 : ps.length ≤ 1000) :
    Calls Tryz.prog 7 #[.slice a0 bk.length cap0, .slice a ps.length cap, .int .i64 now] w (ForPost (bookPut 32 bk ps now) w) := by
  have hal := Lib.hid ((Below.refl w.heap.size w).alloc (Nat.le_refl _) (.cells #[.int .i64 now] 3))
  have hB0 := Lib.hid (hB.later hal.out)
  have hPH := Lib.hid hP
  have hn0 := Lib.hid (Blk.new w #[.int .i64 now] 3)
  clear hB hP
  go_enter Tryz.func7, Tryz.ntmps7
  go_wp2
  go_loopw [0, 8, 11] (fun v0 _ vi wr => ∃ (k : Nat) (a1 : Option Addr) (c1 : Nat), k ≤ ps.length ∧ vi = .int .i64 k ∧ v0 = .slice a1 ((ps.take k).foldl putB bk).length c1 ∧ Hid (PassAt wr a1 ((ps.take k).foldl putB bk)) ∧ Hid (Below w.heap.size w wr) ∧ Hid (Blk wr w.heap.size #[.int .i64 now] 3)) (fun _ _ vi _ => ps.length - (intOf vi).toNat)
  case atStart => exact ⟨0, _, _, Nat.zero_le _, rfl, rfl, hB0, hal, hn0⟩
  case round =>
    obtain ⟨k, a1, c1, hk, rfl, rfl, hL, hB, hN⟩ := hrel
    by_cases hlt : k < ps.length
    · obtain ⟨pb, po, rfl, hc⟩ := (hPH.out.later hB.out) k hlt
      have hrg : wr.rangeAt pb (po + k * 12) (encPass ps[k]) := hc
      have hnext := Lib.hid (show (ps.take (k + 1)).foldl putB bk = putB ((ps.take k).foldl putB bk) ps[k] by rw [List.take_succ_eq_append_getElem hlt, List.foldl_append]; rfl)
      have hlen := foldl_put_len (ps.take k) bk
      rw [List.length_take] at hlen
      clear hc
      generalize ps[k] = x at hrg hnext
      generalize (ps.take k).foldl putB bk = l at hL hnext hlen
      have hZ := Blk.new wr zPass tPass
      go_upto_region 4 with (first
        | (refine wpList_load_mid rfl tPass _ rfl pb (po + k * 12) rfl (encPass x) _ hrg Tryz.underlying79 rfl infoPass ?_)
        | (refine wpList_store_blk rfl tPass _ _ rfl _ rfl hZ x.arr rfl rfl infoPass (pass_one x) ?_; intro wz hpz hgz))
      have hBz : Below wr.heap.size wr wz := below_only ((Below.refl _ _).alloc (Nat.le_refl _) (.cells zPass tPass)) hgz (by simp) (Nat.le_refl _)
      have hBw := Lib.hid (hB.out.then (Nat.le_refl _) hBz)
      have hLz := hL.out.later hBz
      have hNz := hN.out.later hBz
      clear hrg hZ hgz hL hN
      have hmk : ∀ w', Below wz.heap.size wz w' → Below wz.heap.size wz w' ∧ Blk w' wr.heap.size x.arr tPass := fun w' ho => ⟨ho, hpz.later ho⟩
      have hsm : ∀ w', Below wz.heap.size wz w' → Calls Tryz.prog 31 #[.slice a1 l.length c1, .func (.func 32) #[] #[.pointer (some ⟨wr.heap.size, 0, none⟩)]] w' fun e w'' => (∃ v, e = .returned v ∧ OwnG tPass 12 encPass w'' w'.heap.size v (l.filter (fun q => !likeB x q))) ∧ Below w'.heap.size w' w'' := fun w' hb' => by
        refine bookSome 32 #[.pointer (some ⟨wr.heap.size, 0, none⟩)] (fun q => !likeB x q) a1 c1 l w' (hLz.later hb') (by omega) (fun _ _ => rfl) ?_
        intro W y ho _
        exact refPut1 y x wr.heap.size W ((hpz.later hb').later ho)
      have hwB : Below wz.heap.size wz wz.drew := (Below.refl _ _).drew
      have hlf : (l.filter (fun q => !likeB x q)).length ≤ l.length := List.length_filter_le _ _
      have hl1 : (l.filter (fun q => !likeB x q)).length + 1 ≤ maxLen := by unfold maxLen; omega
      have hl3 : ((l.filter (fun q => !likeB x q)).length + 1) * 144 ≤ 140737488355328 := by omega
      have hfin := Lib.hid (show (l.filter (fun q => !likeB x q)) ++ [x] = putB l x from rfl)
      refine wp_region_held_drew (S := fun w' => Below wz.heap.size wz w' ∧ Blk w' wr.heap.size x.arr tPass) (by kernel_rfl) (by (try dsimp only); exact hmk _ hwB) (fun hHeld => ?_)
      refine wpAnyH_take (i := 0) (v := ?_) rfl (by kernel_rfl) (by kernel_rfl) (by kernel_rfl) (fun _ _ _ h => h) (Or.inl ⟨by rfl, ?_⟩) (by assumption) ?_
      rotate_left
      · intro w hSw; (try dsimp only at hSw); go_simp; (try with_reducible rfl)
      (try simp only [List.getElem_toArray, List.getElem_cons_succ, List.getElem_cons_zero, Act.put, List.setIfInBounds_toArray, List.set_cons_zero, List.set_cons_succ])
      refine wpAnyH_take (i := 1) (v := ?_) rfl (by kernel_rfl) (by kernel_rfl) (by kernel_rfl) (fun _ _ _ h => h) (Or.inl ⟨by rfl, ?_⟩) (by assumption) ?_
      rotate_left
      · intro w hSw; (try dsimp only at hSw); go_simp; (try with_reducible rfl)
      (try simp only [List.getElem_toArray, List.getElem_cons_succ, List.getElem_cons_zero, Act.put, List.setIfInBounds_toArray, List.set_cons_zero, List.set_cons_succ])
      refine wpAnyH_take (i := 3) (v := .agg x.arr) rfl (by kernel_rfl) (by kernel_rfl) (by kernel_rfl) (fun _ _ _ h => h) (yieldsIf_load_mid (by rfl) tPass _ rfl wr.heap.size 0 (by rfl) (encPass x) _ (fun w h => h.2.range) Tryz.underlying79 rfl infoPass) (by assumption) ?_
      (try simp only [List.getElem_toArray, List.getElem_cons_succ, List.getElem_cons_zero, Act.put, List.setIfInBounds_toArray, List.set_cons_zero, List.set_cons_succ])
      refine wpAnyH_ready (rs := [2, 4]) (by kernel_rfl) (by simp) ?_
      refine AllReadyH.cons rfl (fun K hK => ?_) (AllReadyH.cons rfl (fun K hK => ?_) AllReadyH.nil)
      · go_simp
        go_at_call 31
        refine (hsm _ hwB).mono ?_
        rintro e w2 ⟨⟨v2, rfl, hO2⟩, hB2⟩
        have hB3 := hwB.then (Nat.le_refl _) hB2
        have hO2' : OwnG tPass 12 encPass w2 wz.heap.size v2 _ := hO2.base (fun g hg => Nat.le_trans hwB.size (hO2.lt g hg).1)
        refine hK.out _ _ (by (try dsimp only); exact hmk _ hB3) (fun hHeld => ?_)
        clear hK K
        (try simp only [List.getElem_toArray, List.getElem_cons_succ, List.getElem_cons_zero, Act.put, List.setIfInBounds_toArray, List.set_cons_zero, List.set_cons_succ])
        refine wpAnyH_ready (rs := [4]) (by kernel_rfl) (by simp) ?_
        refine AllReadyH.cons rfl (fun K hK => ?_) AllReadyH.nil
        go_simp
        have hnb3 := Blk.new w2 x.arr tPass
        have hO3 := OwnG.later hO2' ((Below.refl _ _).alloc (Nat.le_refl _) (.cells x.arr tPass))
        have hB4 := hB3.alloc hB3.size (.cells x.arr tPass)
        refine hK.out _ _ (by (try dsimp only); exact hmk _ hB4) (fun hHeld => ?_)
        clear hK K
        (try simp only [List.getElem_toArray, List.getElem_cons_succ, List.getElem_cons_zero, Act.put, List.setIfInBounds_toArray, List.set_cons_zero, List.set_cons_succ])
        refine wpAnyH_ready (rs := [5]) (by kernel_rfl) (by simp) ?_
        refine AllReadyH.cons rfl (fun K hK => ?_) AllReadyH.nil
        refine step_append_blk bytesPass' Tryz.underlying27 (by rfl) (by decide) encPass_len (by rfl) _ _ (by rfl) _ wz.heap.size v2 (l.filter (fun q => !likeB x q)) (by rfl) hO3 x (encPass_one _) _ (by rfl) _ hnb3 (by rfl) hl1 hl3 hB4.size ?_
        intro g4 cap4 w4 hO4 hG4 hat4
        have hB5 := hB4.grown hG4 hB4.size (fun k hk => (hO3.lt k hk).1)
        refine hK.out _ _ (by (try dsimp only); exact hmk _ hB5) (fun hHeld => ?_)
        clear hK K
        (try simp only [List.getElem_toArray, List.getElem_cons_succ, List.getElem_cons_zero, Act.put, List.setIfInBounds_toArray, List.set_cons_zero, List.set_cons_succ])
        refine wpAnyH_take (i := 6) (v := ?_) rfl (by kernel_rfl) (by kernel_rfl) (by kernel_rfl) (fun _ _ _ h => h) (Or.inl ⟨by rfl, ?_⟩) (by assumption) ?_
        rotate_left
        · intro w hSw; (try dsimp only at hSw); go_simp; (try with_reducible rfl)
        (try simp only [List.getElem_toArray, List.getElem_cons_succ, List.getElem_cons_zero, Act.put, List.setIfInBounds_toArray, List.set_cons_zero, List.set_cons_succ])
        refine wpAnyH_done (by kernel_rfl) ?_ _
        have hB5' := Lib.hid hB5
        have hO5 := Lib.hid hO4
        clear hB5 hO4 hG4
        obtain ⟨a6, c6, e6, hr6, _⟩ := OwnG.shape encPass_len hO5.out
        rw [hfin.out] at e6 hr6
        have hr6' := Lib.hid hr6
        have e6' := Lib.hid e6
        have hB6 := Lib.hid (hBw.out.then (Nat.le_refl _) hB5'.out)
        have hN6 := Lib.hid (hNz.later hB5'.out)
        clear hr6 e6 hsm hmk
        go_wp2
        go_roundw
        case rel => exact ⟨k + 1, a6, c6, by omega, by go_num, by rw [hnext.out]; exact e6'.out, by rw [hnext.out]; exact hr6', hB6, hN6⟩
        case measure => simp [intOf]; omega
      · go_simp
        have hBn : Below wz.heap.size wz (wz.drew.alloc (.cells x.arr tPass)) := hwB.alloc hwB.size _
        have hnb := Blk.new wz.drew x.arr tPass
        refine hK.out _ _ (by (try dsimp only); exact hmk _ hBn) (fun hHeld => ?_)
        clear hK K
        (try simp only [List.getElem_toArray, List.getElem_cons_succ, List.getElem_cons_zero, Act.put, List.setIfInBounds_toArray, List.set_cons_zero, List.set_cons_succ])
        refine wpAnyH_ready (rs := [2]) (by kernel_rfl) (by simp) ?_
        refine AllReadyH.cons rfl (fun K hK => ?_) AllReadyH.nil
        go_simp
        go_at_call 31
        refine (hsm _ hBn).mono ?_
        rintro e w2 ⟨⟨v2, rfl, hO2⟩, hB2⟩
        have hB3 := hBn.then (Nat.le_refl _) hB2
        have hO2' : OwnG tPass 12 encPass w2 wz.heap.size v2 _ := hO2.base (fun g hg => Nat.le_trans hBn.size (hO2.lt g hg).1)
        refine hK.out _ _ (by (try dsimp only); exact hmk _ hB3) (fun hHeld => ?_)
        clear hK K
        (try simp only [List.getElem_toArray, List.getElem_cons_succ, List.getElem_cons_zero, Act.put, List.setIfInBounds_toArray, List.set_cons_zero, List.set_cons_succ])
        have hnb3 := hnb.later hB2
        have hO3 := hO2'
        have hB4 := hB3
        refine wpAnyH_ready (rs := [5]) (by kernel_rfl) (by simp) ?_
        refine AllReadyH.cons rfl (fun K hK => ?_) AllReadyH.nil
        refine step_append_blk bytesPass' Tryz.underlying27 (by rfl) (by decide) encPass_len (by rfl) _ _ (by rfl) _ wz.heap.size v2 (l.filter (fun q => !likeB x q)) (by rfl) hO3 x (encPass_one _) _ (by rfl) _ hnb3 (by rfl) hl1 hl3 hB4.size ?_
        intro g4 cap4 w4 hO4 hG4 hat4
        have hB5 := hB4.grown hG4 hB4.size (fun k hk => (hO3.lt k hk).1)
        refine hK.out _ _ (by (try dsimp only); exact hmk _ hB5) (fun hHeld => ?_)
        clear hK K
        (try simp only [List.getElem_toArray, List.getElem_cons_succ, List.getElem_cons_zero, Act.put, List.setIfInBounds_toArray, List.set_cons_zero, List.set_cons_succ])
        refine wpAnyH_take (i := 6) (v := ?_) rfl (by kernel_rfl) (by kernel_rfl) (by kernel_rfl) (fun _ _ _ h => h) (Or.inl ⟨by rfl, ?_⟩) (by assumption) ?_
        rotate_left
        · intro w hSw; (try dsimp only at hSw); go_simp; (try with_reducible rfl)
        (try simp only [List.getElem_toArray, List.getElem_cons_succ, List.getElem_cons_zero, Act.put, List.setIfInBounds_toArray, List.set_cons_zero, List.set_cons_succ])
        refine wpAnyH_done (by kernel_rfl) ?_ _
        have hB5' := Lib.hid hB5
        have hO5 := Lib.hid hO4
        clear hB5 hO4 hG4
        obtain ⟨a6, c6, e6, hr6, _⟩ := OwnG.shape encPass_len hO5.out
        rw [hfin.out] at e6 hr6
        have hr6' := Lib.hid hr6
        have e6' := Lib.hid e6
        have hB6 := Lib.hid (hBw.out.then (Nat.le_refl _) hB5'.out)
        have hN6 := Lib.hid (hNz.later hB5'.out)
        clear hr6 e6 hsm hmk
        go_wp2
        go_roundw
        case rel => exact ⟨k + 1, a6, c6, by omega, by go_num, by rw [hnext.out]; exact e6'.out, by rw [hnext.out]; exact hr6', hB6, hN6⟩
        case measure => simp [intOf]; omega
    · obtain rfl : ps.length = k := by omega
      rw [List.take_length] at hL ⊢
      have hlen := foldl_put_len ps bk
      have hfe : Hid (bookPut 32 bk ps now = lastB 32 ((ps.foldl putB bk).filter (fun x => decide (now < x.till)))) := Lib.hid rfl
      generalize ps.foldl putB bk = l at hL hlen hfe
      have hsm : Calls Tryz.prog 31 #[.slice a1 l.length c1, .func (.func 33) #[] #[.pointer (some ⟨w.heap.size, 0, none⟩)]] wr fun e w'' => (∃ v, e = .returned v ∧ OwnG tPass 12 encPass w'' wr.heap.size v (l.filter (fun x => decide (now < x.till)))) ∧ Below wr.heap.size wr w'' := by
        refine bookSome 33 #[.pointer (some ⟨w.heap.size, 0, none⟩)] (fun x => decide (now < x.till)) a1 c1 l wr hL.out (by omega) (fun _ _ => rfl) ?_
        intro W y ho _
        exact refPut2 y now w.heap.size W (hN.out.later ho)
      have hlf : (l.filter (fun x => decide (now < x.till))).length ≤ l.length := List.length_filter_le _ _
      generalize l.filter (fun x => decide (now < x.till)) = l2 at hsm hlf hfe
      go_wp2_with fail
      refine hsm.mono ?_
      rintro e w2 ⟨⟨v2, rfl, hO2⟩, hB2⟩
      have hB3 := Lib.hid (hB.out.then (Nat.le_refl _) hB2)
      have hO3 : OwnG tPass 12 encPass w2 w.heap.size v2 l2 := hO2.base (fun g hg => Nat.le_trans hB.out.size (hO2.lt g hg).1)
      have hla := lastOfP 32 w.heap.size v2 l2 w2 hO3 hB3.out.size (by omega) (by decide)
      rw [show ((32 : Nat) : Int) = 32 from rfl] at hla
      obtain ⟨a3, c3, rfl, _⟩ := OwnG.shape encPass_len hO2
      clear hO2 hO3 hB2 hsm
      go_wp2_with fail
      refine hla.mono ?_
      rintro e w4 ⟨⟨v4, rfl, hO4⟩, hB4⟩
      have hO5 := Lib.hid hO4
      have hB5 := Lib.hid (hB3.out.then (Nat.le_refl _) hB4)
      clear hla hO4 hB4
      go_wp2
      go_ret
      exact ⟨⟨_, rfl, by rw [hfe.out]; exact hO5.out⟩, hB5.out⟩
end Go.Proofs.YtnfcdccdmlodeaaGreatDoor
/- The program's book: Put, Forget, Sweep. -/
namespace Go.Proofs.YtnfcdccdmlodeaaGreatDoor
set_option linter.unusedSimpArgs false
open Go.RowKit Go.Deep
/-- what stands while a book is changed: the book's box, another box -/
structure PutI (w : World) (b : Nat) (S : Nat → Prop) (cs : Array Value) (T : TypeId) (l : List Pass) (wr : World) : Prop where
  box : ∃ v, Blk wr b #[v] tBook ∧ OwnG tPass 12 encPass wr 0 v l ∧ ∀ g, v.ownBlock = some g → S g ∨ w.heap.size < g
  tb : Blk wr w.heap.size cs T
  on : Only S w wr
  sb : S b
  bd : ∀ i, S i → i < w.heap.size
  ty : T ≠ tPass
theorem PutI.start {w : World} {b : Nat} {S : Nat → Prop} {l : List Pass} (cs : Array Value) {T : TypeId} (hT : T ≠ tPass) (h : BookR w b S l) : PutI w b S cs T l (w.alloc (.cells cs T)) := by
  obtain ⟨v, h1, h2, h3⟩ := h.box
  exact ⟨⟨v, h1.alloc _, OwnG.later h2 ((Below.refl _ _).alloc (Nat.le_refl _) _), fun g hg => .inl (h3 g hg)⟩, Blk.new _ _ _, (Only.refl S w).alloc _, h.sb, h.bd, hT⟩
theorem PutI.later {w : World} {b : Nat} {S : Nat → Prop} {cs : Array Value} {T : TypeId} {l : List Pass} {wr wx : World} (h : PutI w b S cs T l wr) (hb : Below wr.heap.size wr wx) : PutI w b S cs T l wx := by
  obtain ⟨v, h1, h2, h3⟩ := h.box
  exact ⟨⟨v, h1.later hb, OwnG.later h2 hb, h3⟩, h.tb.later hb, h.on.then hb, h.sb, h.bd, h.ty⟩
/-- the list is another now -/
theorem PutI.turn {w : World} {b : Nat} {S : Nat → Prop} {cs : Array Value} {T : TypeId} {l l' : List Pass} {v v' : Value} {wr wx : World} (h : PutI w b S cs T l wr) (hv : Blk wr b #[v] tBook) (hO : OwnG tPass 12 encPass wr 0 v l) (ho : Only (fun i => v.ownBlock = some i) wr wx) (hO' : OwnG tPass 12 encPass wx 0 v' l') (hw : ∀ g, v'.ownBlock = some g → v.ownBlock = some g ∨ wr.heap.size ≤ g) :
    PutI w b S cs T l' (wx.setCell ⟨b, 0, none⟩ v') := by
  obtain ⟨v1, h1, h2, h3⟩ := h.box
  have e := Blk.same h1 hv
  simp only [Array.mk.injEq, List.cons.injEq, and_true] at e
  subst e
  have hbw := h.bd b h.sb
  have hbx : Blk wx b #[v1] tBook := ho.blk hv (hO.apart (by decide) hv)
  have hon : Only S w wx := Only.old (T := S) (h.on.mono (T := fun i => S i ∨ w.heap.size < i) (fun _ e => .inl e) |>.trans (ho.mono (T := fun i => S i ∨ w.heap.size < i) (fun i hi => h3 i hi))) (fun i hi => hi.imp id (fun h => by omega))
  have htx : Blk wx w.heap.size cs T := ho.blk h.tb (hO.apart h.ty h.tb)
  refine ⟨⟨v', by simpa using hbx.set 0 v', hO'.put' (by decide) hbx 0 v', ?_⟩, htx.far _ _ (by show b ≠ w.heap.size; omega), hon.set (.inl h.sb) v', h.sb, h.bd, h.ty⟩
  intro g hg
  rcases hw g hg with h4 | h4
  · exact h3 g h4
  · have := h.tb.lt
    exact .inr (by omega)
theorem PutI.done {w : World} {b : Nat} {S : Nat → Prop} {cs : Array Value} {T : TypeId} {l : List Pass} {wr : World} (h : PutI w b S cs T l wr) : BookR wr b (grow S w wr) l ∧ Only S w wr := by
  obtain ⟨v, h1, h2, h3⟩ := h.box
  refine ⟨⟨⟨v, h1, h2, fun g hg => ⟨(h3 g hg).imp id (fun h => by omega), (h2.lt g hg).2⟩⟩, ⟨.inl h.sb, h1.lt⟩, fun i hi => hi.2⟩, h.on⟩
/-- what a region may turn that changes the book's list -/
abbrev OnV (v : Value) (b : Nat) (i : Nat) : Prop := v.ownBlock = some i ∨ i = b
set_option maxRecDepth 100000 in
set_option maxHeartbeats 8000000 in
theorem bookPutP (b : Nat) (S : Nat → Prop) (bk : List Pass) (a : Option Addr) (cap : Nat) (ps : List Pass) (now : Int) (w : World) (hB : BookR w b S bk) (hP : PassAt w a ps) (ha : ps ≠ [] → ∀ x, a = some x → ¬ S x.block) (hl : bk.length ≤ 100000) (hl2 : ps.length ≤ 1000) :
    Calls Tryz.prog 6 #[.pointer (some ⟨b, 0, none⟩), .slice a ps.length cap, .int .i64 now] w
      fun e w' => e = .returned (.tuple #[]) ∧ BookR w' b (grow S w w') (bookPut 32 bk ps now) ∧ Only S w w' := by
  have hI0 := Lib.hid (PutI.start #[.int .i64 now] (T := 3) (by decide) hB)
  have hPH := Lib.hid hP
  clear hB hP
  go_enter Tryz.func6, Tryz.ntmps6
  go_wp2
  go_loopw [7, 11] (fun _ vi wr => ∃ k : Nat, k ≤ ps.length ∧ vi = .int .i64 k ∧ Hid (PutI w b S #[.int .i64 now] 3 ((ps.take k).foldl putB bk) wr)) (fun _ vi _ => ps.length - (intOf vi).toNat)
  case atStart => exact ⟨0, Nat.zero_le _, rfl, hI0⟩
  case round =>
    obtain ⟨k, hk, rfl, hI⟩ := hrel
    by_cases hlt : k < ps.length
    · have hPr : PassAt wr a ps := by
        rcases a with _ | ⟨ab, ao, asp⟩
        · intro i hi; obtain ⟨_, _, e, _⟩ := hPH.out i hi; cases e
        · exact hI.out.on.rowAt hPH.out (ha (fun e => by rw [e] at hlt; exact absurd hlt (Nat.not_lt_zero _)))
      obtain ⟨pb, po, rfl, hc⟩ := hPr k hlt
      have hrg : wr.rangeAt pb (po + k * 12) (encPass ps[k]) := hc
      have hnext := Lib.hid (show (ps.take (k + 1)).foldl putB bk = putB ((ps.take k).foldl putB bk) ps[k] by rw [List.take_succ_eq_append_getElem hlt, List.foldl_append]; rfl)
      have hlen := foldl_put_len (ps.take k) bk
      rw [List.length_take] at hlen
      clear hc hPr
      generalize ps[k] = x at hrg hnext
      generalize (ps.take k).foldl putB bk = l at hI hnext hlen
      have hZ := Blk.new wr zPass tPass
      go_upto_region 4 with (first
        | (refine wpList_load_mid rfl tPass _ rfl pb (po + k * 12) rfl (encPass x) _ hrg Tryz.underlying79 rfl infoPass ?_)
        | (refine wpList_store_blk rfl tPass _ _ rfl _ rfl hZ x.arr rfl rfl infoPass (pass_one x) ?_; intro wz hpz hgz))
      have hBz : Below wr.heap.size wr wz := below_only ((Below.refl _ _).alloc (Nat.le_refl _) (.cells zPass tPass)) hgz (by simp) (Nat.le_refl _)
      have hI1 := hI.out.later hBz
      obtain ⟨v, hv, hO, hw⟩ := hI1.box
      obtain ⟨a1, cap1, rfl, hsh⟩ := OwnG.shape encPass_len hO
      have hqb : wr.heap.size ≠ b := by have := hI.out.bd b hI.out.sb; have := hI.out.on.size; omega
      have hqv : ∀ g, (Value.slice a1 l.length cap1).ownBlock = some g → g ≠ wr.heap.size := by
        obtain ⟨v0, h1, h2, h3⟩ := hI.out.box
        have e := Blk.same (h1.later hBz) hv
        simp only [Array.mk.injEq, List.cons.injEq, and_true] at e
        subst e
        intro g hg
        have := (h2.lt g hg).2
        omega
      have hbz : b < wz.heap.size := hv.lt
      clear hsh hrg hZ hgz
      have hmk : ∀ w', Only (OnV (.slice a1 l.length cap1) b) wz w' → Only (OnV (.slice a1 l.length cap1) b) wz w' ∧ Blk w' wr.heap.size x.arr tPass := fun w' ho =>
        ⟨ho, ho.blk hpz (fun e => by rcases e with e | e; exact hqv _ e rfl; exact hqb e)⟩
      have hdel : ∀ w', Below wz.heap.size wz w' → Calls Tryz.prog 25 #[.slice a1 l.length cap1, .func (.func 26) #[] #[.pointer (some ⟨wr.heap.size, 0, none⟩)]] w' (DelPost tPass 12 encPass 0 (.slice a1 l.length cap1) (l.filter (fun q => !likeB x q)) w') := fun w' hb' => by
        refine deleteFuncP 26 #[.pointer (some ⟨wr.heap.size, 0, none⟩)] (fun q => likeB x q) 0 _ l w' (OwnG.later hO hb') (by omega) (fun _ _ => rfl) ?_
        intro W y ho _
        exact passPut1 y x wr.heap.size W (ho.blk (hpz.later hb') (fun e => hqv _ e rfl))
      have hwB : Below wz.heap.size wz wz.drew := (Below.refl _ _).drew
      have hlf : (l.filter (fun q => !likeB x q)).length ≤ l.length := List.length_filter_le _ _
      have hl1 : (l.filter (fun q => !likeB x q)).length + 1 ≤ maxLen := by unfold maxLen; omega
      have hl3 : ((l.filter (fun q => !likeB x q)).length + 1) * 144 ≤ 140737488355328 := by omega
      have hfin := Lib.hid (show (l.filter (fun q => !likeB x q)) ++ [x] = putB l x from rfl)
      refine wp_region_held_drew (S := fun w' => Only (OnV (.slice a1 l.length cap1) b) wz w' ∧ Blk w' wr.heap.size x.arr tPass) (by kernel_rfl) (by (try dsimp only); exact hmk _ (Only.of_below hwB)) (fun hHeld => ?_)
      refine wpAnyH_take (i := 0) (v := ?_) rfl (by kernel_rfl) (by kernel_rfl) (by kernel_rfl) (fun _ _ _ h => h) (Or.inl ⟨by rfl, ?_⟩) (by assumption) ?_
      rotate_left
      · intro w hSw; (try dsimp only at hSw); go_simp; (try with_reducible rfl)
      (try simp only [List.getElem_toArray, List.getElem_cons_succ, List.getElem_cons_zero, Act.put, List.setIfInBounds_toArray, List.set_cons_zero, List.set_cons_succ])
      refine wpAnyH_take (i := 1) (v := ?_) rfl (by kernel_rfl) (by kernel_rfl) (by kernel_rfl) (fun _ _ _ h => h) (Or.inl ⟨by rfl, ?_⟩) (by assumption) ?_
      rotate_left
      · intro w hSw; (try dsimp only at hSw); go_simp; (try with_reducible rfl)
      (try simp only [List.getElem_toArray, List.getElem_cons_succ, List.getElem_cons_zero, Act.put, List.setIfInBounds_toArray, List.set_cons_zero, List.set_cons_succ])
      refine wpAnyH_take (i := 2) (v := ?_) rfl (by kernel_rfl) (by kernel_rfl) (by kernel_rfl) (fun _ _ _ h => h) (Or.inl ⟨by rfl, ?_⟩) (by assumption) ?_
      rotate_left
      · intro w hSw; (try dsimp only at hSw); go_simp; (try with_reducible rfl)
      (try simp only [List.getElem_toArray, List.getElem_cons_succ, List.getElem_cons_zero, Act.put, List.setIfInBounds_toArray, List.set_cons_zero, List.set_cons_succ])
      refine wpAnyH_take (i := 3) (v := ?_) rfl (by kernel_rfl) (by kernel_rfl) (by kernel_rfl) (fun _ _ _ h => h) (Or.inl ⟨by rfl, ?_⟩) (by assumption) ?_
      rotate_left
      · intro w hSw; (try dsimp only at hSw); go_simp; (try with_reducible rfl)
      (try simp only [List.getElem_toArray, List.getElem_cons_succ, List.getElem_cons_zero, Act.put, List.setIfInBounds_toArray, List.set_cons_zero, List.set_cons_succ])
      refine wpAnyH_take (i := 5) (v := ?_) rfl (by kernel_rfl) (by kernel_rfl) (by kernel_rfl) (fun _ _ _ h => h) (Or.inl ⟨by rfl, ?_⟩) (by assumption) ?_
      rotate_left
      · intro w hSw; (try dsimp only at hSw); go_simp; (try with_reducible rfl)
      (try simp only [List.getElem_toArray, List.getElem_cons_succ, List.getElem_cons_zero, Act.put, List.setIfInBounds_toArray, List.set_cons_zero, List.set_cons_succ])
      refine wpAnyH_take (i := 7) (v := .agg x.arr) rfl (by kernel_rfl) (by kernel_rfl) (by kernel_rfl) (fun _ _ _ h => h) (yieldsIf_load_mid (by rfl) tPass _ rfl wr.heap.size 0 (by rfl) (encPass x) _ (fun w h => h.2.range) Tryz.underlying79 rfl infoPass) (by assumption) ?_
      (try simp only [List.getElem_toArray, List.getElem_cons_succ, List.getElem_cons_zero, Act.put, List.setIfInBounds_toArray, List.set_cons_zero, List.set_cons_succ])
      refine wpAnyH_ready (rs := [4, 8]) (by kernel_rfl) (by simp) ?_
      refine AllReadyH.cons rfl (fun K hK => ?_) (AllReadyH.cons rfl (fun K hK => ?_) AllReadyH.nil)
      · have cW : _ = some (Value.slice a1 l.length cap1) := hv.cell 0 rfl
        have cP : _ = some (Value.slice a1 l.length cap1) := (hv.later hwB).cell 0 rfl
        go_simp
        refine hK.out _ _ (by (try dsimp only); exact hmk _ (Only.of_below hwB)) (fun hHeld => ?_)
        clear hK K
        (try simp only [List.getElem_toArray, List.getElem_cons_succ, List.getElem_cons_zero, Act.put, List.setIfInBounds_toArray, List.set_cons_zero, List.set_cons_succ])
        refine wpAnyH_ready (rs := [6, 8]) (by kernel_rfl) (by simp) ?_
        refine AllReadyH.cons rfl (fun K hK => ?_) (AllReadyH.cons rfl (fun K hK => ?_) AllReadyH.nil)
        · go_simp
          go_at_call 25
          refine (hdel _ hwB).mono ?_
          rintro e w2 ⟨v2, rfl, hO2, ho2, hb2⟩
          have ho2' : Only (OnV (.slice a1 l.length cap1) b) wz w2 := (Only.of_below hwB).trans (ho2.mono (fun i hi => .inl hi))
          have hov2 : Only (fun i => (Value.slice a1 l.length cap1).ownBlock = some i) wz w2 := (Only.of_below hwB).trans ho2
          refine hK.out _ _ (by (try dsimp only); exact hmk _ ho2') (fun hHeld => ?_)
          clear hK K
          (try simp only [List.getElem_toArray, List.getElem_cons_succ, List.getElem_cons_zero, Act.put, List.setIfInBounds_toArray, List.set_cons_zero, List.set_cons_succ])
          refine wpAnyH_ready (rs := [8]) (by kernel_rfl) (by simp) ?_
          refine AllReadyH.cons rfl (fun K hK => ?_) AllReadyH.nil
          go_simp
          have hnb3 := Blk.new w2 x.arr tPass
          have hO3 := OwnG.later hO2 ((Below.refl _ _).alloc (Nat.le_refl _) (.cells x.arr tPass))
          have hov3 := hov2.alloc (.cells x.arr tPass)
          refine hK.out _ _ (by (try dsimp only); exact hmk _ (hov3.mono (fun i hi => .inl hi))) (fun hHeld => ?_)
          clear hK K
          (try simp only [List.getElem_toArray, List.getElem_cons_succ, List.getElem_cons_zero, Act.put, List.setIfInBounds_toArray, List.set_cons_zero, List.set_cons_succ])
          refine wpAnyH_ready (rs := [9]) (by kernel_rfl) (by simp) ?_
          refine AllReadyH.cons rfl (fun K hK => ?_) AllReadyH.nil
          refine step_append_blk bytesPass' Tryz.underlying24 (by rfl) (by decide) encPass_len (by rfl) _ _ (by rfl) _ 0 v2 (l.filter (fun q => !likeB x q)) (by rfl) hO3 x (encPass_one _) _ (by rfl) _ hnb3 (by rfl) hl1 hl3 (Nat.zero_le _) ?_
          intro g4 cap4 w4 hO4 hG4 hat4
          have hov4 : Only (fun i => (Value.slice a1 l.length cap1).ownBlock = some i) wz w4 := hov3.trans (Only.of_grown hG4 (fun i hi => by rw [← hb2]; exact hi))
          have hov4' : Only (OnV (.slice a1 l.length cap1) b) wz w4 := hov4.mono (fun i hi => .inl hi)
          have hb4 : Blk w4 b #[.slice a1 l.length cap1] tBook := hov4.blk hv (hO.apart (by decide) hv)
          have c4 := hb4.cell 0 rfl
          have f4 := hb4.free 0
          refine hK.out _ _ (by (try dsimp only); exact hmk _ hov4') (fun hHeld => ?_)
          clear hK K
          (try simp only [List.getElem_toArray, List.getElem_cons_succ, List.getElem_cons_zero, Act.put, List.setIfInBounds_toArray, List.set_cons_zero, List.set_cons_succ])
          have hown4 := own_app (v := .slice a1 l.length cap1) (n4 := (l.filter (fun q => !likeB x q)).length + 1) (c4 := cap4) hov3.size hb2 hat4
          refine wpAnyH_take (i := 10) (v := ?_) rfl (by kernel_rfl) (by kernel_rfl) (by kernel_rfl) (fun _ _ _ h => h) (Or.inl ⟨by rfl, ?_⟩) (by assumption) ?_
          rotate_left
          · intro w hSw; (try dsimp only at hSw); go_simp; (try with_reducible rfl)
          (try simp only [List.getElem_toArray, List.getElem_cons_succ, List.getElem_cons_zero, Act.put, List.setIfInBounds_toArray, List.set_cons_zero, List.set_cons_succ])
          refine wpAnyH_take (i := 11) (v := ?_) rfl (by kernel_rfl) (by kernel_rfl) (by kernel_rfl) (fun _ _ _ h => h) (Or.inl ⟨by rfl, ?_⟩) (by assumption) ?_
          rotate_left
          · intro w hSw; (try dsimp only at hSw); go_simp; (try with_reducible rfl)
          (try simp only [List.getElem_toArray, List.getElem_cons_succ, List.getElem_cons_zero, Act.put, List.setIfInBounds_toArray, List.set_cons_zero, List.set_cons_succ])
          refine wpAnyH_ready (rs := [12]) (by kernel_rfl) (by simp) ?_
          refine AllReadyH.cons rfl (fun K hK => ?_) AllReadyH.nil
          go_simp
          have hEnd := Lib.hid (hI1.turn hv hO hov4 (by rw [hfin.out] at hO4; exact hO4) hown4)
          have hov5 := hov4'.set (p := ⟨b, 0, none⟩) (.inl (.inr rfl)) (.slice (some ⟨g4, 0, none⟩) ((l.filter (fun q => !likeB x q)).length + 1) cap4)
          refine hK.out _ _ (by (try dsimp only); exact hmk _ hov5) (fun hHeld => ?_)
          clear hK K
          (try simp only [List.getElem_toArray, List.getElem_cons_succ, List.getElem_cons_zero, Act.put, List.setIfInBounds_toArray, List.set_cons_zero, List.set_cons_succ])
          refine wpAnyH_done (by kernel_rfl) ?_ _
          go_wp2
          go_roundw
          case rel => exact ⟨k + 1, by omega, by go_num, by rw [hnext.out]; exact hEnd⟩
          case measure => simp [intOf]; omega
        · go_simp
          have hBn : Below wz.heap.size wz (wz.drew.alloc (.cells x.arr tPass)) := hwB.alloc hwB.size _
          have hnb := Blk.new wz.drew x.arr tPass
          refine hK.out _ _ (by (try dsimp only); exact hmk _ (Only.of_below hBn)) (fun hHeld => ?_)
          clear hK K
          (try simp only [List.getElem_toArray, List.getElem_cons_succ, List.getElem_cons_zero, Act.put, List.setIfInBounds_toArray, List.set_cons_zero, List.set_cons_succ])
          refine wpAnyH_ready (rs := [6]) (by kernel_rfl) (by simp) ?_
          refine AllReadyH.cons rfl (fun K hK => ?_) AllReadyH.nil
          go_simp
          go_at_call 25
          refine (hdel _ hBn).mono ?_
          rintro e w2 ⟨v2, rfl, hO2, ho2, hb2⟩
          have ho2' : Only (OnV (.slice a1 l.length cap1) b) wz w2 := (Only.of_below hBn).trans (ho2.mono (fun i hi => .inl hi))
          have hov2 : Only (fun i => (Value.slice a1 l.length cap1).ownBlock = some i) wz w2 := (Only.of_below hBn).trans ho2
          refine hK.out _ _ (by (try dsimp only); exact hmk _ ho2') (fun hHeld => ?_)
          clear hK K
          (try simp only [List.getElem_toArray, List.getElem_cons_succ, List.getElem_cons_zero, Act.put, List.setIfInBounds_toArray, List.set_cons_zero, List.set_cons_succ])
          have hnb3 := ho2.blk hnb (fun e => by have := (OwnG.lt hO _ e).2; simp at this)
          have hO3 := hO2
          have hov3 := hov2
          refine wpAnyH_ready (rs := [9]) (by kernel_rfl) (by simp) ?_
          refine AllReadyH.cons rfl (fun K hK => ?_) AllReadyH.nil
          refine step_append_blk bytesPass' Tryz.underlying24 (by rfl) (by decide) encPass_len (by rfl) _ _ (by rfl) _ 0 v2 (l.filter (fun q => !likeB x q)) (by rfl) hO3 x (encPass_one _) _ (by rfl) _ hnb3 (by rfl) hl1 hl3 (Nat.zero_le _) ?_
          intro g4 cap4 w4 hO4 hG4 hat4
          have hov4 : Only (fun i => (Value.slice a1 l.length cap1).ownBlock = some i) wz w4 := hov3.trans (Only.of_grown hG4 (fun i hi => by rw [← hb2]; exact hi))
          have hov4' : Only (OnV (.slice a1 l.length cap1) b) wz w4 := hov4.mono (fun i hi => .inl hi)
          have hb4 : Blk w4 b #[.slice a1 l.length cap1] tBook := hov4.blk hv (hO.apart (by decide) hv)
          have c4 := hb4.cell 0 rfl
          have f4 := hb4.free 0
          refine hK.out _ _ (by (try dsimp only); exact hmk _ hov4') (fun hHeld => ?_)
          clear hK K
          (try simp only [List.getElem_toArray, List.getElem_cons_succ, List.getElem_cons_zero, Act.put, List.setIfInBounds_toArray, List.set_cons_zero, List.set_cons_succ])
          have hown4 := own_app (v := .slice a1 l.length cap1) (n4 := (l.filter (fun q => !likeB x q)).length + 1) (c4 := cap4) hov3.size hb2 hat4
          refine wpAnyH_take (i := 10) (v := ?_) rfl (by kernel_rfl) (by kernel_rfl) (by kernel_rfl) (fun _ _ _ h => h) (Or.inl ⟨by rfl, ?_⟩) (by assumption) ?_
          rotate_left
          · intro w hSw; (try dsimp only at hSw); go_simp; (try with_reducible rfl)
          (try simp only [List.getElem_toArray, List.getElem_cons_succ, List.getElem_cons_zero, Act.put, List.setIfInBounds_toArray, List.set_cons_zero, List.set_cons_succ])
          refine wpAnyH_take (i := 11) (v := ?_) rfl (by kernel_rfl) (by kernel_rfl) (by kernel_rfl) (fun _ _ _ h => h) (Or.inl ⟨by rfl, ?_⟩) (by assumption) ?_
          rotate_left
          · intro w hSw; (try dsimp only at hSw); go_simp; (try with_reducible rfl)
          (try simp only [List.getElem_toArray, List.getElem_cons_succ, List.getElem_cons_zero, Act.put, List.setIfInBounds_toArray, List.set_cons_zero, List.set_cons_succ])
          refine wpAnyH_ready (rs := [12]) (by kernel_rfl) (by simp) ?_
          refine AllReadyH.cons rfl (fun K hK => ?_) AllReadyH.nil
          go_simp
          have hEnd := Lib.hid (hI1.turn hv hO hov4 (by rw [hfin.out] at hO4; exact hO4) hown4)
          have hov5 := hov4'.set (p := ⟨b, 0, none⟩) (.inl (.inr rfl)) (.slice (some ⟨g4, 0, none⟩) ((l.filter (fun q => !likeB x q)).length + 1) cap4)
          refine hK.out _ _ (by (try dsimp only); exact hmk _ hov5) (fun hHeld => ?_)
          clear hK K
          (try simp only [List.getElem_toArray, List.getElem_cons_succ, List.getElem_cons_zero, Act.put, List.setIfInBounds_toArray, List.set_cons_zero, List.set_cons_succ])
          refine wpAnyH_done (by kernel_rfl) ?_ _
          go_wp2
          go_roundw
          case rel => exact ⟨k + 1, by omega, by go_num, by rw [hnext.out]; exact hEnd⟩
          case measure => simp [intOf]; omega
      · go_simp
        have hBn : Below wz.heap.size wz (wz.drew.alloc (.cells x.arr tPass)) := hwB.alloc hwB.size _
        have hnb := Blk.new wz.drew x.arr tPass
        refine hK.out _ _ (by (try dsimp only); exact hmk _ (Only.of_below hBn)) (fun hHeld => ?_)
        clear hK K
        (try simp only [List.getElem_toArray, List.getElem_cons_succ, List.getElem_cons_zero, Act.put, List.setIfInBounds_toArray, List.set_cons_zero, List.set_cons_succ])
        refine wpAnyH_ready (rs := [4]) (by kernel_rfl) (by simp) ?_
        refine AllReadyH.cons rfl (fun K hK => ?_) AllReadyH.nil
        have cW : _ = some (Value.slice a1 l.length cap1) := hv.cell 0 rfl
        have cP : _ = some (Value.slice a1 l.length cap1) := (hv.later hBn).cell 0 rfl
        go_simp
        refine hK.out _ _ (by (try dsimp only); exact hmk _ (Only.of_below hBn)) (fun hHeld => ?_)
        clear hK K
        (try simp only [List.getElem_toArray, List.getElem_cons_succ, List.getElem_cons_zero, Act.put, List.setIfInBounds_toArray, List.set_cons_zero, List.set_cons_succ])
        refine wpAnyH_ready (rs := [6]) (by kernel_rfl) (by simp) ?_
        refine AllReadyH.cons rfl (fun K hK => ?_) AllReadyH.nil
        go_simp
        go_at_call 25
        refine (hdel _ hBn).mono ?_
        rintro e w2 ⟨v2, rfl, hO2, ho2, hb2⟩
        have ho2' : Only (OnV (.slice a1 l.length cap1) b) wz w2 := (Only.of_below hBn).trans (ho2.mono (fun i hi => .inl hi))
        have hov2 : Only (fun i => (Value.slice a1 l.length cap1).ownBlock = some i) wz w2 := (Only.of_below hBn).trans ho2
        refine hK.out _ _ (by (try dsimp only); exact hmk _ ho2') (fun hHeld => ?_)
        clear hK K
        (try simp only [List.getElem_toArray, List.getElem_cons_succ, List.getElem_cons_zero, Act.put, List.setIfInBounds_toArray, List.set_cons_zero, List.set_cons_succ])
        have hnb3 := ho2.blk hnb (fun e => by have := (OwnG.lt hO _ e).2; simp at this)
        have hO3 := hO2
        have hov3 := hov2
        refine wpAnyH_ready (rs := [9]) (by kernel_rfl) (by simp) ?_
        refine AllReadyH.cons rfl (fun K hK => ?_) AllReadyH.nil
        refine step_append_blk bytesPass' Tryz.underlying24 (by rfl) (by decide) encPass_len (by rfl) _ _ (by rfl) _ 0 v2 (l.filter (fun q => !likeB x q)) (by rfl) hO3 x (encPass_one _) _ (by rfl) _ hnb3 (by rfl) hl1 hl3 (Nat.zero_le _) ?_
        intro g4 cap4 w4 hO4 hG4 hat4
        have hov4 : Only (fun i => (Value.slice a1 l.length cap1).ownBlock = some i) wz w4 := hov3.trans (Only.of_grown hG4 (fun i hi => by rw [← hb2]; exact hi))
        have hov4' : Only (OnV (.slice a1 l.length cap1) b) wz w4 := hov4.mono (fun i hi => .inl hi)
        have hb4 : Blk w4 b #[.slice a1 l.length cap1] tBook := hov4.blk hv (hO.apart (by decide) hv)
        have c4 := hb4.cell 0 rfl
        have f4 := hb4.free 0
        refine hK.out _ _ (by (try dsimp only); exact hmk _ hov4') (fun hHeld => ?_)
        clear hK K
        (try simp only [List.getElem_toArray, List.getElem_cons_succ, List.getElem_cons_zero, Act.put, List.setIfInBounds_toArray, List.set_cons_zero, List.set_cons_succ])
        have hown4 := own_app (v := .slice a1 l.length cap1) (n4 := (l.filter (fun q => !likeB x q)).length + 1) (c4 := cap4) hov3.size hb2 hat4
        refine wpAnyH_take (i := 10) (v := ?_) rfl (by kernel_rfl) (by kernel_rfl) (by kernel_rfl) (fun _ _ _ h => h) (Or.inl ⟨by rfl, ?_⟩) (by assumption) ?_
        rotate_left
        · intro w hSw; (try dsimp only at hSw); go_simp; (try with_reducible rfl)
        (try simp only [List.getElem_toArray, List.getElem_cons_succ, List.getElem_cons_zero, Act.put, List.setIfInBounds_toArray, List.set_cons_zero, List.set_cons_succ])
        refine wpAnyH_take (i := 11) (v := ?_) rfl (by kernel_rfl) (by kernel_rfl) (by kernel_rfl) (fun _ _ _ h => h) (Or.inl ⟨by rfl, ?_⟩) (by assumption) ?_
        rotate_left
        · intro w hSw; (try dsimp only at hSw); go_simp; (try with_reducible rfl)
        (try simp only [List.getElem_toArray, List.getElem_cons_succ, List.getElem_cons_zero, Act.put, List.setIfInBounds_toArray, List.set_cons_zero, List.set_cons_succ])
        refine wpAnyH_ready (rs := [12]) (by kernel_rfl) (by simp) ?_
        refine AllReadyH.cons rfl (fun K hK => ?_) AllReadyH.nil
        go_simp
        have hEnd := Lib.hid (hI1.turn hv hO hov4 (by rw [hfin.out] at hO4; exact hO4) hown4)
        have hov5 := hov4'.set (p := ⟨b, 0, none⟩) (.inl (.inr rfl)) (.slice (some ⟨g4, 0, none⟩) ((l.filter (fun q => !likeB x q)).length + 1) cap4)
        refine hK.out _ _ (by (try dsimp only); exact hmk _ hov5) (fun hHeld => ?_)
        clear hK K
        (try simp only [List.getElem_toArray, List.getElem_cons_succ, List.getElem_cons_zero, Act.put, List.setIfInBounds_toArray, List.set_cons_zero, List.set_cons_succ])
        refine wpAnyH_done (by kernel_rfl) ?_ _
        go_wp2
        go_roundw
        case rel => exact ⟨k + 1, by omega, by go_num, by rw [hnext.out]; exact hEnd⟩
        case measure => simp [intOf]; omega
    · obtain rfl : ps.length = k := by omega
      have hI1 := hI
      rw [List.take_length] at hI1
      have hlen := foldl_put_len ps bk
      have hfe : Hid (bookPut 32 bk ps now = lastB 32 ((ps.foldl putB bk).filter (fun x => !!decide (now < x.till)))) := by
        show bookPut 32 bk ps now = _
        unfold bookPut
        simp only [Bool.not_not]
      generalize ps.foldl putB bk = l at hI1 hlen hfe
      obtain ⟨v, hv, hO, hw⟩ := hI1.out.box
      obtain ⟨a1, cap1, rfl, hsh⟩ := OwnG.shape encPass_len hO
      have c0 : _ = some (Value.slice a1 l.length cap1) := hv.cell 0 rfl
      have hdel : Calls Tryz.prog 25 #[.slice a1 l.length cap1, .func (.func 28) #[] #[.pointer (some ⟨w.heap.size, 0, none⟩)]] wr (DelPost tPass 12 encPass 0 (.slice a1 l.length cap1) (l.filter (fun x => !!decide (now < x.till))) wr) := by
        refine deleteFuncP 28 #[.pointer (some ⟨w.heap.size, 0, none⟩)] (fun x => !decide (now < x.till)) 0 _ l wr hO (by omega) (fun _ _ => rfl) ?_
        intro W y ho _
        exact passPut2 y now w.heap.size W (ho.blk hI1.out.tb (hO.apart (by decide) hI1.out.tb))
      have hlf : (l.filter (fun x => !!decide (now < x.till))).length ≤ l.length := List.length_filter_le _ _
      generalize l.filter (fun x => !!decide (now < x.till)) = l2 at hdel hlf hfe
      have hOH := Lib.hid hO
      have hvH := Lib.hid hv
      clear hsh hO hv
      go_wp2_with fail
      refine hdel.mono ?_
      rintro e w2 ⟨v2, rfl, hO2, ho2, hb2⟩
      have hI2 := hI1.out.turn hvH.out hOH.out ho2 hO2 (fun g hg => .inl (by rw [← hb2]; exact hg))
      have hbx : Blk w2 b #[.slice a1 l.length cap1] tBook := ho2.blk hvH.out (hOH.out.apart (by decide) hvH.out)
      obtain ⟨a2, cap2, rfl, hsh2⟩ := OwnG.shape encPass_len hO2
      have c1 := hbx.cell 0 rfl
      have f1 := hbx.free 0
      have hI2H := Lib.hid hI2
      clear hI2 hsh2 hdel ho2 hb2 hbx c0
      by_cases hn : 32 < l2.length
      · obtain ⟨v3, hv3, hO3, hw3⟩ := hI2H.out.box
        have e3 : v3 = .slice a2 l2.length cap2 := by
          have := hv3.cell 0 rfl
          have h4 : (w2.setCell ⟨b, 0, none⟩ (.slice a2 l2.length cap2)).cell? ⟨b, 0, none⟩ = some (.slice a2 l2.length cap2) := World.cell?_setCell_same _ _ _ c1
          rw [h4] at this
          exact (Option.some.inj this).symm
        subst e3
        have hd := deleteP 0 (l2.length - 32) 0 _ l2 _ hO3 (by omega) (by omega) (by omega)
        rw [List.take_zero, List.nil_append, show ((0 : Nat) : Int) = 0 from rfl, show (((l2.length - 32 : Nat)) : Int) = (l2.length : Int) - 32 by omega] at hd
        have hO3H := Lib.hid hO3
        have hv3H := Lib.hid hv3
        clear hO3 hv3 hw3
        go_wp2_with (refine hd.mono ?_; rintro e w4 ⟨v4, rfl, hO4, ho4, hb4⟩; obtain ⟨a4, cap4, e4, hsh4⟩ := OwnG.shape encPass_len hO4; rw [List.length_drop] at e4; subst e4; clear hsh4; have hbx4 : Blk w4 b #[.slice a2 l2.length cap2] tBook := ho4.blk hv3H.out (hO3H.out.apart (by decide) hv3H.out); have c4 := hbx4.cell 0 rfl; have f4 := hbx4.free 0)
        have hI4 := Lib.hid (hI2H.out.turn hv3H.out hO3H.out ho4 hO4 (fun g hg => .inl (by rw [← hb4]; exact hg)))
        go_end0
        refine ⟨rfl, ?_⟩
        rw [hfe.out]
        exact hI4.out.done
      · have hlast := Lib.hid (show lastB 32 l2 = l2 by unfold lastB; rw [Nat.sub_eq_zero_of_le (by omega)]; rfl)
        go_wp2
        go_end0
        refine ⟨rfl, ?_⟩
        rw [hfe.out, hlast.out]
        exact hI2H.out.done
set_option maxRecDepth 100000 in
set_option maxHeartbeats 4000000 in
theorem bookForgetP (b : Nat) (S : Nat → Prop) (bk : List Pass) (r : Req) (w : World) (hB : BookR w b S bk) (hl : bk.length ≤ 100000) :
    Calls Tryz.prog 9 #[.pointer (some ⟨b, 0, none⟩), .agg r.arr] w
      fun e w' => e = .returned (.int .i64 ((bk.length : Int) - ((bookForget r bk).length : Int))) ∧ BookR w' b (grow S w w') (bookForget r bk) ∧ Only S w w' := by
  have hI1 := Lib.hid (PutI.start r.arr (T := tReq) (by decide) hB)
  clear hB
  obtain ⟨v, hv, hO, hw⟩ := hI1.out.box
  obtain ⟨a1, cap1, rfl, hsh⟩ := OwnG.shape encPass_len hO
  have c0 : _ = some (Value.slice a1 bk.length cap1) := hv.cell 0 rfl
  have hdel : Calls Tryz.prog 25 #[.slice a1 bk.length cap1, .func (.func 36) #[] #[.pointer (some ⟨w.heap.size, 0, none⟩)]] (w.alloc (.cells r.arr tReq)) (DelPost tPass 12 encPass 0 (.slice a1 bk.length cap1) (bookForget r bk) (w.alloc (.cells r.arr tReq))) := by
    refine deleteFuncP 36 #[.pointer (some ⟨w.heap.size, 0, none⟩)] (fun x => orgE x.orig r.orig && urlE x r) 0 _ bk _ hO (by omega) (fun _ _ => rfl) ?_
    intro W y ho _
    exact passForget1 y r w.heap.size W (ho.blk hI1.out.tb (hO.apart (by decide) hI1.out.tb))
  have hlf : (bookForget r bk).length ≤ bk.length := List.length_filter_le _ _
  generalize bookForget r bk = l2 at hdel hlf ⊢
  have hOH := Lib.hid hO
  have hvH := Lib.hid hv
  clear hsh hO hv
  go_enter Tryz.func9, Tryz.ntmps9
  go_wp2_with fail
  refine hdel.mono ?_
  rintro e w2 ⟨v2, rfl, hO2, ho2, hb2⟩
  have hI2 := Lib.hid (hI1.out.turn hvH.out hOH.out ho2 hO2 (fun g hg => .inl (by rw [← hb2]; exact hg)))
  have hbx : Blk w2 b #[.slice a1 bk.length cap1] tBook := ho2.blk hvH.out (hOH.out.apart (by decide) hvH.out)
  obtain ⟨a2, cap2, rfl, hsh2⟩ := OwnG.shape encPass_len hO2
  have c1 := hbx.cell 0 rfl
  have f1 := hbx.free 0
  clear hsh2 hdel ho2 hb2 hbx c0 hO2
  go_wp2
  go_ret
  exact ⟨rfl, hI2.out.done⟩
set_option maxRecDepth 100000 in
set_option maxHeartbeats 4000000 in
theorem bookSweepP (b : Nat) (S : Nat → Prop) (bk : List Pass) (o : Org) (w : World) (hB : BookR w b S bk) (hl : bk.length ≤ 100000) :
    Calls Tryz.prog 11 #[.pointer (some ⟨b, 0, none⟩), .agg #[.bool o.sec, .string o.host, .int .i64 o.port]] w
      fun e w' => e = .returned (.int .i64 ((bk.length : Int) - ((bookSweep o bk).length : Int))) ∧ BookR w' b (grow S w w') (bookSweep o bk) ∧ Only S w w' := by
  have hI1 := Lib.hid (PutI.start #[.bool o.sec, .string o.host, .int .i64 o.port] (T := 29) (by decide) hB)
  clear hB
  obtain ⟨v, hv, hO, hw⟩ := hI1.out.box
  obtain ⟨a1, cap1, rfl, hsh⟩ := OwnG.shape encPass_len hO
  have c0 : _ = some (Value.slice a1 bk.length cap1) := hv.cell 0 rfl
  have hdel : Calls Tryz.prog 25 #[.slice a1 bk.length cap1, .func (.func 38) #[] #[.pointer (some ⟨w.heap.size, 0, none⟩)]] (w.alloc (.cells #[.bool o.sec, .string o.host, .int .i64 o.port] 29)) (DelPost tPass 12 encPass 0 (.slice a1 bk.length cap1) (bookSweep o bk) (w.alloc (.cells #[.bool o.sec, .string o.host, .int .i64 o.port] 29))) := by
    refine deleteFuncP 38 #[.pointer (some ⟨w.heap.size, 0, none⟩)] (fun x => orgE x.orig o || orgE x.dest o) 0 _ bk _ hO (by omega) (fun _ _ => rfl) ?_
    intro W y ho _
    exact passSweep1 y o w.heap.size W (ho.blk hI1.out.tb (hO.apart (by decide) hI1.out.tb))
  have hlf : (bookSweep o bk).length ≤ bk.length := List.length_filter_le _ _
  generalize bookSweep o bk = l2 at hdel hlf ⊢
  have hOH := Lib.hid hO
  have hvH := Lib.hid hv
  clear hsh hO hv
  go_enter Tryz.func11, Tryz.ntmps11
  go_wp2_with fail
  refine hdel.mono ?_
  rintro e w2 ⟨v2, rfl, hO2, ho2, hb2⟩
  have hI2 := Lib.hid (hI1.out.turn hvH.out hOH.out ho2 hO2 (fun g hg => .inl (by rw [← hb2]; exact hg)))
  have hbx : Blk w2 b #[.slice a1 bk.length cap1] tBook := ho2.blk hvH.out (hOH.out.apart (by decide) hvH.out)
  obtain ⟨a2, cap2, rfl, hsh2⟩ := OwnG.shape encPass_len hO2
  have c1 := hbx.cell 0 rfl
  have f1 := hbx.free 0
  clear hsh2 hdel ho2 hb2 hbx c0 hO2
  go_wp2
  go_ret
  exact ⟨rfl, hI2.out.done⟩
end Go.Proofs.YtnfcdccdmlodeaaGreatDoor
