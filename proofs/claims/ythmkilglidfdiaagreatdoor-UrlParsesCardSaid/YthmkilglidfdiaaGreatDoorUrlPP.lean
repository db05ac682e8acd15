/- What both sides find in a url: plain law. -/
import Derived.Test.YthmkilglidfdiaaGreatDoorUrlQ
import Derived.Test.YthmkilglidfdiaaGreatDoorSend
import Derived.Test.YthmkilglidfdiaaGreatDoorClean
namespace Go.Proofs.YthmkilglidfdiaaGreatDoor
/-- how far a url's host and port reach -/
def atL (r : List UInt8) : Nat := (r.takeWhile (fun c => !(c == 47 || c == 63))).length
/-- the rest of a url behind its origin: path and query -/
def restL (tl : List UInt8) : Except Int (ByteArray × List UInt8) :=
  if (befL 63 tl).all sendB && (tl.drop ((befL 63 tl).length + 1)).all sendB then
    if 200 < (cleanB ⟨(befL 63 tl).toArray⟩).size then .error 2 else .ok (cleanB ⟨(befL 63 tl).toArray⟩, tl.drop ((befL 63 tl).length + 1))
  else .error 3
abbrev UrlR := Except Int ((Bool × List UInt8 × Int) × ByteArray × List UInt8)
def urlT (l : List UInt8) : UrlR :=
  match schemeL l with
  | none => .error 3
  | some (sec, r) => match placeL sec (r.take (atL r)) with
    | none => .error 3
    | some (h, n) => if hostOk h && portOk n then
        match restL (r.drop (atL r)) with
        | .error e => .error e
        | .ok (p, q) => .ok ((sec, h, n), p, q)
      else .error 3
def urlParseP (l : List UInt8) : UrlR := if 3000 < l.length then .error 4 else urlT (befL 35 l)
/-- the reference's way -/
def urlTR (l : List UInt8) : UrlR :=
  if Lib.index l [58, 47, 47] < 0 then .error 3 else
    let a := (Lib.index l [58, 47, 47]).toNat + 3 + atL (l.drop ((Lib.index l [58, 47, 47]).toNat + 3))
    match originP (l.take a) with
    | none => .error 3
    | some o => match restL (l.drop a) with
      | .error e => .error e
      | .ok (p, q) => .ok (o, p, q)
theorem occ_take {l : List UInt8} {j m : Nat} (h : Lib.occAt l [58, 47, 47] j = false) : Lib.occAt (l.take m) [58, 47, 47] j = false := by
  cases h2 : Lib.occAt (l.take m) [58, 47, 47] j with
  | false => rfl
  | true =>
    rw [← h, ← h2]
    unfold Lib.occAt at h2 ⊢
    rw [h2]
    symm
    have hp := List.isPrefixOf_iff_prefix.1 h2
    rw [List.isPrefixOf_iff_prefix]
    rw [List.drop_take] at hp
    exact hp.trans (List.take_prefix _ _)
theorem index_take {l : List UInt8} {i a : Nat} (hil : i ≤ l.length) (ho : Lib.occAt l [58, 47, 47] i = true) (hn : Lib.NoOcc l [58, 47, 47] i) : Lib.index (l.take (i + 3 + a)) [58, 47, 47] = i := by
  obtain ⟨rr, hr⟩ := occ_is ho
  refine Lib.index_first ?_ ?_ ?_
  · rw [List.length_take]; omega
  · unfold Lib.occAt
    rw [List.drop_take, hr, show i + 3 + a - i = a + 1 + 1 + 1 by omega]
    simp
  · intro j hj
    exact occ_take (hn j hj)
theorem refSch_take (h r : List UInt8) (a : Nat) : refSch h (r.take a) = (refSch h r).map (fun x => (x.1, x.2.take a)) := by
  unfold refSch
  split
  · rfl
  · split <;> rfl
theorem refSch_rest {h r r' : List UInt8} {sec : Bool} (e : refSch h r = some (sec, r')) : r' = r := by
  unfold refSch at e
  split at e
  · cases e; rfl
  · split at e
    · cases e; rfl
    · cases e
theorem url_same (l : List UInt8) : urlTR l = urlT l := by
  unfold urlTR
  rcases Lib.index_spec l [58, 47, 47] with ⟨hi, _⟩ | ⟨i, hi, hil, hio, hno⟩
  · rw [if_pos (by rw [hi]; decide)]
    unfold urlT
    rw [show schemeL l = none by rw [← scheme_same, refSchemeL, hi, if_pos (by decide)]]
  · rw [if_neg (by rw [hi]; omega)]
    simp only [hi, Int.toNat_natCast]
    have hs : schemeL l = refSch (l.take i) (l.drop (i + 3)) := by rw [← scheme_same, refSchemeL, hi, if_neg (by omega), Int.toNat_natCast]
    have hst : schemeL (l.take (i + 3 + atL (l.drop (i + 3)))) = refSch (l.take i) ((l.drop (i + 3)).take (atL (l.drop (i + 3)))) := by
      rw [← scheme_same, refSchemeL, index_take hil hio hno, if_neg (by omega), Int.toNat_natCast, List.take_take, List.drop_take]
      congr 2
      · omega
      · omega
    rw [refSch_take, ← hs] at hst
    unfold urlT originP
    rw [hst]
    cases h1 : schemeL l with
    | none => rfl
    | some x =>
      obtain ⟨sec, r⟩ := x
      obtain rfl := refSch_rest (hs ▸ h1)
      simp only [Option.map_some]
      cases placeL sec ((l.drop (i + 3)).take (atL (l.drop (i + 3)))) with
      | none => rfl
      | some y =>
        obtain ⟨h, n⟩ := y
        simp only []
        rw [List.drop_drop]
        cases hostOk h && portOk n <;> rfl
end Go.Proofs.YthmkilglidfdiaaGreatDoor
