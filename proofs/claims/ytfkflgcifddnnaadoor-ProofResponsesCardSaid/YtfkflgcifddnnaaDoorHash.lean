/- proof.hash and the reference's h: a scheme's sum of a text. -/
import Derived.Test.YtfkflgcifddnnaaDoorSumSX
import Derived.Test.YtfkflgcifddnnaaDoorJoin
namespace Go.Proofs.YtfkflgcifddnnaaDoor
open Go.RowKit
/-- the tables that the sums read -/
structure SumT (w : World) : Prop where
  md : MdT w
  sha : ShaT w
  deb : Deb w
theorem SumT.later {w w' : World} (h : SumT w) (hb : Below w.heap.size w w') : SumT w' := ⟨h.md.later hb, h.sha.later hb, h.deb.later hb⟩
def hashL (sc : Int) (l : List UInt8) : List UInt8 := if sc = 3 then shaL l else md5L l
theorem hashL_len (sc : Int) (l : List UInt8) : (hashL sc l).length ≤ 64 := by
  unfold hashL; split
  · rw [shaL_len]; exact Nat.le_refl _
  · rw [md5L_len]; decide
set_option maxRecDepth 100000 in
theorem refH (sc : Int) (s : ByteArray) (hs : s.size ≤ 1000000) (w : World) (hT : SumT w) :
    Calls Tryd.prog 75 #[.int .i64 sc, .string s] w fun e w' => e = .returned (.string ⟨(hashL sc s.data.toList).toArray⟩) ∧ Below w.heap.size w w' := by
  have h1 := refSHA s hs w hT.sha hT.deb
  have h2 := refMD5 s hs w hT.md hT.deb
  by_cases h3 : sc = 3
  · have hb : (sc == 3) = true := by simp [h3]
    have hh := Lib.hid (show hashL sc s.data.toList = shaL s.data.toList by unfold hashL; rw [if_pos h3])
    clear h3
    go_enter Tryd.func75, Tryd.ntmps75
    go_wp2_with fail
    refine h1.mono ?_
    rintro e w1 ⟨rfl, hB⟩
    go_wp2
    go_ret
    exact ⟨ret_str (by rw [hh.out]; rfl), hB⟩
  · have hb : (sc == 3) = false := by simp [h3]
    have hh := Lib.hid (show hashL sc s.data.toList = md5L s.data.toList by unfold hashL; rw [if_neg h3])
    clear h3
    go_enter Tryd.func75, Tryd.ntmps75
    go_wp2_with fail
    refine h2.mono ?_
    rintro e w1 ⟨rfl, hB⟩
    go_wp2
    go_ret
    exact ⟨ret_str (by rw [hh.out]; rfl), hB⟩
set_option maxRecDepth 100000 in
theorem proofHash (sc : Int) (a : Option Addr) (cap : Nat) (ss : List ByteArray) (w : World) (hT : SumT w) (hS : StrAt w a ss) (hc : ss.length ≤ cap) (hn : ss.length ≤ 100) (hl : (Lib.join (datas ss) [58]).length ≤ 1000000) :
    Calls Tryd.prog 73 #[.int .i64 sc, .slice a ss.length cap] w fun e w' => e = .returned (.string ⟨(hashL sc (Lib.join (datas ss) [58])).toArray⟩) ∧ Below w.heap.size w w' := by
  have hj := stringsJoin a cap ss ⟨#[58]⟩ w hS hc (by omega) (by show (Lib.join (datas ss) [58]).length ≤ _; omega)
  obtain ⟨J, hJ⟩ : ∃ J : ByteArray, J = ⟨(Lib.join (datas ss) [58]).toArray⟩ := ⟨_, rfl⟩
  rw [show (⟨#[58]⟩ : ByteArray).data.toList = [58] from rfl, ← hJ] at hj
  have hJl : J.data.toList = Lib.join (datas ss) [58] := by rw [hJ]
  have hJs : J.size ≤ 1000000 := by rw [sz_len, hJl]; exact hl
  have hJl' := Lib.hid hJl
  clear hJ hJl hl
  by_cases h3 : sc = 3
  · have hb : (sc == 3) = true := by simp [h3]
    have hh := Lib.hid (show hashL sc (Lib.join (datas ss) [58]) = shaL J.data.toList by unfold hashL; rw [if_pos h3, hJl'.out])
    clear h3
    go_enter Tryd.func73, Tryd.ntmps73
    go_wp2_with fail
    refine hj.mono ?_
    rintro e w1 ⟨rfl, hB⟩
    have h1 := sumSHA_is J hJs w1 (hT.sha.later hB)
    go_wp2_with fail
    refine h1.mono ?_
    rintro e w2 ⟨rfl, hB2⟩
    go_wp2
    go_ret
    exact ⟨ret_str (by rw [hh.out]), hB.then (Nat.le_refl _) hB2⟩
  · have hb : (sc == 3) = false := by simp [h3]
    have hh := Lib.hid (show hashL sc (Lib.join (datas ss) [58]) = md5L J.data.toList by unfold hashL; rw [if_neg h3, hJl'.out])
    clear h3
    go_enter Tryd.func73, Tryd.ntmps73
    go_wp2_with fail
    refine hj.mono ?_
    rintro e w1 ⟨rfl, hB⟩
    have h1 := sumMD5_is J hJs w1 (hT.md.later hB)
    go_wp2_with fail
    refine h1.mono ?_
    rintro e w2 ⟨rfl, hB2⟩
    go_wp2
    go_ret
    exact ⟨ret_str (by rw [hh.out]), hB.then (Nat.le_refl _) hB2⟩
end Go.Proofs.YtfkflgcifddnnaaDoor
