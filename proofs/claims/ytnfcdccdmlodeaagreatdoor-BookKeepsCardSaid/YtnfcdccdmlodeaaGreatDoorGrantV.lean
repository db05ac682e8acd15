/- What an answer grants, in plain words; cors.words. -/
import Derived.Test.YtnfcdccdmlodeaaGreatDoorGrantA
import Derived.Test.YtnfcdccdmlodeaaGreatDoorList
import Derived.Test.YtnfcdccdmlodeaaGreatDoorMay
import Derived.Test.YtnfcdccdmlodeaaGreatDoorErrs
namespace Go.Proofs.YtnfcdccdmlodeaaGreatDoor
open Go.RowKit
def nMeth : ByteArray := ⟨#[97, 99, 99, 101, 115, 115, 45, 99, 111, 110, 116, 114, 111, 108, 45, 97, 108, 108, 111, 119, 45, 109, 101, 116, 104, 111, 100, 115]⟩
def nMethG : ByteArray := ⟨#[65, 99, 99, 101, 115, 115, 45, 67, 111, 110, 116, 114, 111, 108, 45, 65, 108, 108, 111, 119, 45, 77, 101, 116, 104, 111, 100, 115]⟩
def nHead : ByteArray := ⟨#[97, 99, 99, 101, 115, 115, 45, 99, 111, 110, 116, 114, 111, 108, 45, 97, 108, 108, 111, 119, 45, 104, 101, 97, 100, 101, 114, 115]⟩
def nHeadG : ByteArray := ⟨#[65, 99, 99, 101, 115, 115, 45, 67, 111, 110, 116, 114, 111, 108, 45, 65, 108, 108, 111, 119, 45, 72, 101, 97, 100, 101, 114, 115]⟩
theorem meth_field (ps : List (ByteArray × ByteArray)) : fieldOf ps nMethG = fieldOf ps nMeth := fieldOf_lower' _ _ _ (by decide +kernel)
theorem head_field (ps : List (ByteArray × ByteArray)) : fieldOf ps nHeadG = fieldOf ps nHead := fieldOf_lower' _ _ _ (by decide +kernel)
/-- a field's words, and whether it is no list -/
def wordsL (ps : List (ByteArray × ByteArray)) (n : ByteArray) : List (List UInt8) := (listRes (fieldOf ps n).1.data.toList).1
def wordsBad (ps : List (ByteArray × ByteArray)) (n : ByteArray) : Bool := !((listRes (fieldOf ps n).1.data.toList).2.1 == 0)
/-- a text in small letters -/
def lowT (l : List UInt8) : ByteArray := ⟨(lower l).toArray⟩
/-- the methods meant -/
def methsV (r : Req) (ps : List (ByteArray × ByteArray)) : List ByteArray := if (wordsL ps nMeth).isEmpty then [methodOf r.method] else mkT (wordsL ps nMeth)
def headsV (ps : List (ByteArray × ByteArray)) : List ByteArray := (wordsL ps nHead).map lowT
def mayV (r : Req) (ps : List (ByteArray × ByteArray)) : Bool := mayB r.creds (fieldOf ps nOrigin).1 (fieldOf ps nOrigin).2 (fieldOf ps nCreds).1 ⟨(originL r.orig.sec r.orig.host r.orig.port).toArray⟩
def ageV (ps : List (ByteArray × ByteArray)) : Int := ageOf (fieldOf ps nAge).1 (fieldOf ps nAge).2
def pairsV (r : Req) (ps : List (ByteArray × ByteArray)) : List BP := onceB (pairsB (methsV r ps) (headsV ps))
/-- what is granted: the pairs, the error -/
def grantV (r : Req) (ps : List (ByteArray × ByteArray)) (now : Int) : List BP × Int :=
  if wordsBad ps nMeth || wordsBad ps nHead then ([], 3)
  else if mayV r ps = false then ([], 6)
  else if covV r ((pairsV r ps).map (mkP r (now + ageV ps))) = false then ([], 6)
  else (pairsV r ps, 0)
theorem ageV_in (ps : List (ByteArray × ByteArray)) : 0 ≤ ageV ps ∧ ageV ps ≤ 1000 := by
  unfold ageV ageOf
  split
  · omega
  · decide
theorem meths_len (r : Req) (ps : List (ByteArray × ByteArray)) : (methsV r ps).length ≤ 40 := by
  unfold methsV
  split
  · simp
  · rw [mkT_len]; exact listRes_len _
theorem heads_len (ps : List (ByteArray × ByteArray)) : (headsV ps).length ≤ 40 := by
  unfold headsV
  rw [List.length_map]; exact listRes_len _
theorem pairs_ok (r : Req) (ps : List (ByteArray × ByteArray)) : ∀ p ∈ pairsB (methsV r ps) (headsV ps), PairOk p := by
  intro p hp
  unfold pairsB at hp
  rcases List.mem_append.1 hp with hp | hp
  · obtain ⟨m, _, rfl⟩ := List.mem_map.1 hp
    exact .inl rfl
  · obtain ⟨h, hh, rfl⟩ := List.mem_map.1 hp
    refine .inr ⟨rfl, ?_⟩
    obtain ⟨l, hl, rfl⟩ := List.mem_map.1 hh
    exact lower_nought (listRes_tok _ l hl)
theorem listP_short (N : Nat) : ∀ (ps : List (List UInt8)) (k : Nat) (acc ws : List (List UInt8)), (∀ w ∈ acc, w.length ≤ N) → (∀ p ∈ ps, p.length ≤ N) → listP ps k acc = .inl ws → ∀ w ∈ ws, w.length ≤ N
  | [], k, acc, ws, ha, _, h => by cases h; exact ha
  | p :: ps, k, acc, ws, ha, hp, h => by
    rw [listP] at h
    split at h
    · refine listP_short N ps _ _ ws ?_ (fun q hq => hp q (List.mem_cons_of_mem _ hq)) h
      intro w hw
      split at hw
      · exact ha w hw
      · rcases List.mem_append.1 hw with hw | hw
        · exact ha w hw
        · rw [List.mem_singleton.1 hw]
          exact Nat.le_trans ((List.takeWhile_sublist _).trans (List.dropWhile_sublist _)).length_le (hp p List.mem_cons_self)
    · cases h
theorem words_len (ps : List (ByteArray × ByteArray)) (n : ByteArray) (M : Nat) (hM : ∀ p ∈ ps, p.2.size ≤ M) : ∀ x ∈ wordsL ps n, x.length ≤ ps.length * (M + 2) := by
  have hsz := fieldOf_size ps n M hM
  unfold wordsL listRes
  cases h : listL (fieldOf ps n).1.data.toList with
  | inr k => intro w hw; cases hw
  | inl ws =>
    simp only
    split
    · intro w hw; cases hw
    · exact listP_short _ _ _ _ _ (fun w hw => by cases hw) (fun p hp => Nat.le_trans (cutL_piece 44 _ p hp).1 (by rw [← sz_len]; exact hsz)) h
/-- what words tells -/
def WordsPost (w : World) (ps : List (ByteArray × ByteArray)) (n : ByteArray) (e : Ending) (w' : World) : Prop :=
  (∃ v x ss, e = .returned (.tuple #[v, x]) ∧ OwnStr w' w.heap.size v ss ∧ ((wordsBad ps n = true ∧ x = .iface 130 (.int .i64 3)) ∨ (wordsBad ps n = false ∧ x = .nilIface ∧ datas ss = wordsL ps n))) ∧ Below w.heap.size w w'
set_option maxRecDepth 100000 in
theorem corsWords (a : Option Addr) (cap : Nat) (ps : List (ByteArray × ByteArray)) (name : ByteArray) (M : Nat) (w : World) (hP : ParAt w a ps) (hz : ParSz ps) (hl : ps.length ≤ 1048576) (hn : name.size ≤ maxLen)
    (hM : ∀ p ∈ ps, p.2.size ≤ M) (hM' : ps.length * (M + 2) ≤ 1000000) :
    Calls Tryz.prog 184 #[.slice a ps.length cap, .string name] w (WordsPost w ps name) := by
  have hg := corsGet a cap ps name M w hP hz hl hn hM (by omega)
  have hsz : (fieldOf ps name).1.size ≤ 1000000 := Nat.le_trans (fieldOf_size ps name M hM) hM'
  have hbad := Lib.hid (show wordsBad ps name = !((listRes (fieldOf ps name).1.data.toList).2.1 == 0) from rfl)
  have hwl := Lib.hid (show wordsL ps name = (listRes (fieldOf ps name).1.data.toList).1 from rfl)
  unfold WordsPost
  generalize wordsBad ps name = bad at hbad ⊢
  generalize wordsL ps name = wl at hwl ⊢
  generalize (fieldOf ps name).2 = ok at hg
  generalize (fieldOf ps name).1 = s at hg hsz hbad hwl
  have htl := fun w => tokenList s w hsz
  clear hM' hM hz hP
  go_enter Tryz.func184, Tryz.ntmps184
  go_wp2_with fail
  refine hg.mono ?_
  rintro e w1 ⟨rfl, hB1⟩
  go_wp2_with fail
  refine (htl _).mono ?_
  rintro e w2 ⟨v, x, ss, rfl, hO, hd, hE, h0, hB2⟩
  have hOw := Lib.hid (hO.base hB1.size)
  have hBw := Lib.hid (hB1.then (Nat.le_refl _) hB2)
  have hd' := Lib.hid hd
  obtain ⟨a1, cap1, rfl, _, _, _, _⟩ := hO.shape
  generalize (listRes s.data.toList).1 = l1 at hwl hd' hd
  generalize (listRes s.data.toList).2.1 = n at hbad hE h0
  clear hg htl hd hO hB1 hB2
  by_cases hn0 : n = 0
  · subst hn0
    obtain rfl := h0 rfl
    have hb := Lib.hid (show bad = false from hbad.out)
    clear hE h0 hbad
    go_wp2
    go_returns
    exact ⟨⟨_, _, ss, rfl, hOw.out, .inr ⟨hb.out, rfl, by rw [hd'.out, ← hwl.out]⟩⟩, hBw.out⟩
  · have hb := Lib.hid (show bad = true by rw [hbad.out]; simp [hn0])
    have hnil := Lib.hid (OwnStr.nil w2 w.heap.size)
    rcases hE with ⟨rfl, rfl, _⟩ | ⟨rfl, _⟩ | ⟨p, rfl, _, _⟩
    · exact absurd rfl hn0
    all_goals
      clear h0 hbad
      go_wp2
      go_returns
      exact ⟨⟨_, _, [], rfl, hnil.out, .inl ⟨hb.out, rfl⟩⟩, hBw.out⟩
end Go.Proofs.YtnfcdccdmlodeaaGreatDoor
