/- Merged out of SumX SumSX Hash. -/
import Derived.Test.YtdlhihfjigcimaaDoorSumMR
import Derived.Test.YtdlhihfjigcimaaDoorSumPad
import Derived.Test.YtdlhihfjigcimaaDoorSumT
import Derived.Test.YtdlhihfjigcimaaDoorSumSR
import Derived.Test.YtdlhihfjigcimaaDoorFoun2
/- MD5, both sides. -/
namespace Go.Proofs.YtdlhihfjigcimaaDoor
open Go.RowKit


theorem hex_words (little : Bool) : ∀ ws : List Nat, (∀ x ∈ ws, x < 4294967296) → hexL (ws.flatMap (bytes4 little)) = ws.flatMap (digitsN little)
  | [], _ => rfl
  | w :: r, h => by
    rw [List.flatMap_cons, List.flatMap_cons, hexL_append, hex_bytes4 little w (h w (by simp)), hex_words little r (fun x hx => h x (by simp [hx]))]
theorem four_lt {v : W4} (h : v.ok) : ∀ x ∈ four v, x < 4294967296 := by
  intro x hx
  obtain ⟨h1, h2, h3, h4⟩ := h
  simp only [four, List.mem_cons, List.not_mem_nil, or_false] at hx
  rcases hx with rfl | rfl | rfl | rfl <;> assumption
/-- MD5 as digits -/
def md5L (l : List UInt8) : List UInt8 := (four (md5H l)).flatMap (digitsN true)
theorem digits_four (v : W4) (h : v.ok) : ((four v).flatMap (digitsN true)).length = 32 := by
  obtain ⟨h1, h2, h3, h4⟩ := h
  simp [four, digitsN_len true _ h1, digitsN_len true _ h2, digitsN_len true _ h3, digitsN_len true _ h4]
theorem md5L_len (l : List UInt8) : (md5L l).length = 32 := digits_four _ (md5At_ok _ _ _)
theorem sumMD5_is (s : ByteArray) (hs : s.size ≤ 1000000) (w : World) (hT : MdT w) :
    Calls Tryd.prog 138 #[.string s] w fun e w' => e = .returned (.string ⟨(md5L s.data.toList).toArray⟩) ∧ Below w.heap.size w w' := by
  refine sumMD5 s hs w hT (fun v => ⟨((four v).flatMap (digitsN true)).toArray⟩) (fun w' => sumPadL s hs w') ?_
  intro v B w' hv hB
  have h := sumTextL B 0 4 (four v) (four_lt hv) (by simp [four]) (by simp [four]) w' hB.lt (fun i hi => by
    obtain ⟨h1, h2, h3, h4⟩ := hv
    rw [Nat.zero_add]
    match i, hi with
    | 0, _ => exact hB.cell 0 rfl
    | 1, _ => exact hB.cell 1 rfl
    | 2, _ => exact hB.cell 2 rfl
    | 3, _ => exact hB.cell 3 rfl)
  rw [hex_words true _ (four_lt hv)] at h
  exact h
end Go.Proofs.YtdlhihfjigcimaaDoor
/- SHA-256, both sides. -/
namespace Go.Proofs.YtdlhihfjigcimaaDoor
open Go.RowKit
theorem eight_lt {v : W8} (h : v.ok) : ∀ x ∈ eightL v, x < 4294967296 := by
  intro x hx
  obtain ⟨h1, h2, h3, h4, h5, h6, h7, h8⟩ := h
  simp only [eightL, List.mem_cons, List.not_mem_nil, or_false] at hx
  rcases hx with rfl | rfl | rfl | rfl | rfl | rfl | rfl | rfl <;> assumption
/-- SHA-256 as digits -/
def shaL (l : List UInt8) : List UInt8 := (eightL (shaH l)).flatMap (digitsN false)
theorem digits_eight (v : W8) (h : v.ok) : ((eightL v).flatMap (digitsN false)).length = 64 := by
  obtain ⟨h1, h2, h3, h4, h5, h6, h7, h8⟩ := h
  simp [eightL, digitsN_len false _ h1, digitsN_len false _ h2, digitsN_len false _ h3, digitsN_len false _ h4, digitsN_len false _ h5, digitsN_len false _ h6, digitsN_len false _ h7, digitsN_len false _ h8]
theorem shaL_len (l : List UInt8) : (shaL l).length = 64 := digits_eight _ (shaAt_ok _ _ sha0_ok _ _)
theorem sumSHA_is (s : ByteArray) (hs : s.size ≤ 1000000) (w : World) (hT : ShaT w) :
    Calls Tryd.prog 137 #[.string s] w fun e w' => e = .returned (.string ⟨(shaL s.data.toList).toArray⟩) ∧ Below w.heap.size w w' := by
  refine sumSHA s hs w hT (fun v => ⟨((eightL v).flatMap (digitsN false)).toArray⟩) (fun w' => sumPadB s hs w') ?_
  intro v B w' hv hB
  have h := sumTextB B 0 8 (eightL v) (eight_lt hv) (by simp [eightL]) (by simp [eightL]) w' hB.lt (fun i hi => by
    rw [Nat.zero_add]
    match i, hi with
    | 0, _ => exact hB.cell 0 rfl
    | 1, _ => exact hB.cell 1 rfl
    | 2, _ => exact hB.cell 2 rfl
    | 3, _ => exact hB.cell 3 rfl
    | 4, _ => exact hB.cell 4 rfl
    | 5, _ => exact hB.cell 5 rfl
    | 6, _ => exact hB.cell 6 rfl
    | 7, _ => exact hB.cell 7 rfl)
  rw [hex_words false _ (eight_lt hv)] at h
  exact h
end Go.Proofs.YtdlhihfjigcimaaDoor
/- proof.hash and the reference's h: a scheme's sum of a text. -/
namespace Go.Proofs.YtdlhihfjigcimaaDoor
open Go.RowKit
/-- the tables that the sums read -/
structure SumT (w : World) : Prop where
  md : MdT w
  sha : ShaT w
  deb : Deb w
theorem SumT.later {w w' : World} (h : SumT w) (hb : Below w.heap.size w w') : SumT w' := ⟨h.md.later hb, h.sha.later hb, h.deb.later hb⟩
def hashL (sc : Int) (l : List UInt8) : List UInt8 := if sc = 3 then shaL l else md5L l
theorem hashL_len (sc : Int) (l : List UInt8) : (hashL sc l).length ≤ 64 := by
  unfold hashL; split
  · rw [shaL_len]; exact Nat.le_refl _
  · rw [md5L_len]; decide
set_option maxRecDepth 100000 in
theorem refH (sc : Int) (s : ByteArray) (hs : s.size ≤ 1000000) (w : World) (hT : SumT w) :
    Calls Tryd.prog 104 #[.int .i64 sc, .string s] w fun e w' => e = .returned (.string ⟨(hashL sc s.data.toList).toArray⟩) ∧ Below w.heap.size w w' := by
  have h1 := refSHA s hs w hT.sha hT.deb
  have h2 := refMD5 s hs w hT.md hT.deb
  by_cases h3 : sc = 3
  · have hb : (sc == 3) = true := by simp [h3]
    have hh := Lib.hid (show hashL sc s.data.toList = shaL s.data.toList by unfold hashL; rw [if_pos h3])
    clear h3
    go_enter Tryd.func104, Tryd.ntmps104
    go_wp2_with fail
    refine h1.mono ?_
    rintro e w1 ⟨rfl, hB⟩
    go_wp2
    go_ret
    exact ⟨ret_str (by rw [hh.out]; rfl), hB⟩
  · have hb : (sc == 3) = false := by simp [h3]
    have hh := Lib.hid (show hashL sc s.data.toList = md5L s.data.toList by unfold hashL; rw [if_neg h3])
    clear h3
    go_enter Tryd.func104, Tryd.ntmps104
    go_wp2_with fail
    refine h2.mono ?_
    rintro e w1 ⟨rfl, hB⟩
    go_wp2
    go_ret
    exact ⟨ret_str (by rw [hh.out]; rfl), hB⟩
set_option maxRecDepth 100000 in
theorem proofHash (sc : Int) (a : Option Addr) (cap : Nat) (ss : List ByteArray) (w : World) (hT : SumT w) (hS : StrAt w a ss) (hc : ss.length ≤ cap) (hn : ss.length ≤ 100) (hl : (Lib.join (datas ss) [58]).length ≤ 1000000) :
    Calls Tryd.prog 107 #[.int .i64 sc, .slice a ss.length cap] w fun e w' => e = .returned (.string ⟨(hashL sc (Lib.join (datas ss) [58])).toArray⟩) ∧ Below w.heap.size w w' := by
  have hj := stringsJoin a cap ss ⟨#[58]⟩ w hS hc (by omega) (by show (Lib.join (datas ss) [58]).length ≤ _; omega)
  obtain ⟨J, hJ⟩ : ∃ J : ByteArray, J = ⟨(Lib.join (datas ss) [58]).toArray⟩ := ⟨_, rfl⟩
  rw [show (⟨#[58]⟩ : ByteArray).data.toList = [58] from rfl, ← hJ] at hj
  have hJl : J.data.toList = Lib.join (datas ss) [58] := by rw [hJ]
  have hJs : J.size ≤ 1000000 := by rw [sz_len, hJl]; exact hl
  have hJl' := Lib.hid hJl
  clear hJ hJl hl
  by_cases h3 : sc = 3
  · have hb : (sc == 3) = true := by simp [h3]
    have hh := Lib.hid (show hashL sc (Lib.join (datas ss) [58]) = shaL J.data.toList by unfold hashL; rw [if_pos h3, hJl'.out])
    clear h3
    go_enter Tryd.func107, Tryd.ntmps107
    go_wp2_with fail
    refine hj.mono ?_
    rintro e w1 ⟨rfl, hB⟩
    have h1 := sumSHA_is J hJs w1 (hT.sha.later hB)
    go_wp2_with fail
    refine h1.mono ?_
    rintro e w2 ⟨rfl, hB2⟩
    go_wp2
    go_ret
    exact ⟨ret_str (by rw [hh.out]), hB.then (Nat.le_refl _) hB2⟩
  · have hb : (sc == 3) = false := by simp [h3]
    have hh := Lib.hid (show hashL sc (Lib.join (datas ss) [58]) = md5L J.data.toList by unfold hashL; rw [if_neg h3, hJl'.out])
    clear h3
    go_enter Tryd.func107, Tryd.ntmps107
    go_wp2_with fail
    refine hj.mono ?_
    rintro e w1 ⟨rfl, hB⟩
    have h1 := sumMD5_is J hJs w1 (hT.md.later hB)
    go_wp2_with fail
    refine h1.mono ?_
    rintro e w2 ⟨rfl, hB2⟩
    go_wp2
    go_ret
    exact ⟨ret_str (by rw [hh.out]), hB.then (Nat.le_refl _) hB2⟩
end Go.Proofs.YtdlhihfjigcimaaDoor
