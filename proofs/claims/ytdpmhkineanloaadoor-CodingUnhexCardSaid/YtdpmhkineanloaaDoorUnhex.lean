/- coding.Unhex and the reference's Unhex: the bytes that pairs of small digits are. -/
import Derived.Test.YtdpmhkineanloaaDoorHex
import Derived.Test.YtdpmhkineanloaaDoorPlace
import Derived.Test.YtdpmhkineanloaaDoorQuote
import Derived.Deep.QuietTactic
import Derived.BigQuiet
import Derived.Deep.RegionWith
namespace Go.Proofs.YtdpmhkineanloaaDoor
open Go.RowKit

/-- the bytes below k that are written so -/
def hits (t : List UInt8) (k : Nat) : List UInt8 := ((List.range k).map UInt8.ofNat).filter (fun c => hex2 c == t)
theorem hits_hit {t : List UInt8} {k : Nat} (h : hex2 (UInt8.ofNat k) = t) : hits t (k + 1) = hits t k ++ [UInt8.ofNat k] := by
  unfold hits; rw [List.range_succ, List.map_append, List.filter_append]; simp [h]
theorem hits_miss {t : List UInt8} {k : Nat} (h : hex2 (UInt8.ofNat k) ≠ t) : hits t (k + 1) = hits t k := by
  unfold hits; rw [List.range_succ, List.map_append, List.filter_append]; simp [h]
def smallL : List UInt8 := [48, 49, 50, 51, 52, 53, 54, 55, 56, 57, 97, 98, 99, 100, 101, 102]
/-- what a small digit is worth; -1: it is none -/
def hv (c : UInt8) : Int := Lib.indexByte smallL c
theorem hv_sig : ∀ d : Fin 16, hv (sig d.val) = d.val := by decide +kernel
theorem hv_back (c : UInt8) (h : 0 ≤ hv c) : sig (hv c).toNat = c ∧ (hv c).toNat < 16 := by
  have h' : ∀ n : Fin 256, 0 ≤ hv (UInt8.ofNat n.val) → sig (hv (UInt8.ofNat n.val)).toNat = UInt8.ofNat n.val ∧ (hv (UInt8.ofNat n.val)).toNat < 16 := by decide +kernel
  have := h' ⟨c.toNat, c.toNat_lt⟩
  simp only [UInt8.ofNat_toNat] at this
  exact this h
theorem filter_one : ∀ v : Fin 256, ((List.range 256).filter fun c => c == v.val) = [v.val] := by decide +kernel
theorem hex2_iff (c a b : UInt8) (ha : 0 ≤ hv a) (hb : 0 ≤ hv b) : hex2 c = [a, b] ↔ c.toNat = 16 * (hv a).toNat + (hv b).toNat := by
  obtain ⟨ea, la⟩ := hv_back a ha
  obtain ⟨eb, lb⟩ := hv_back b hb
  have hc := c.toNat_lt
  constructor
  · intro h
    simp only [hex2, List.cons.injEq, and_true] at h
    have h1 := hv_sig ⟨c.toNat / 16, by omega⟩
    have h2 := hv_sig ⟨c.toNat % 16, Nat.mod_lt _ (by decide)⟩
    simp only [h.1, h.2] at h1 h2
    omega
  · intro h
    simp only [hex2, List.cons.injEq, and_true]
    rw [show c.toNat / 16 = (hv a).toNat by omega, show c.toNat % 16 = (hv b).toNat by omega]
    exact ⟨ea, eb⟩
theorem hits_some (a b : UInt8) (ha : 0 ≤ hv a) (hb : 0 ≤ hv b) : hits [a, b] 256 = [UInt8.ofNat (16 * (hv a).toNat + (hv b).toNat)] := by
  obtain ⟨_, la⟩ := hv_back a ha
  obtain ⟨_, lb⟩ := hv_back b hb
  unfold hits
  rw [List.filter_map]
  have e : (List.range 256).filter ((fun c => hex2 c == [a, b]) ∘ UInt8.ofNat) = (List.range 256).filter fun c => c == 16 * (hv a).toNat + (hv b).toNat := by
    apply List.filter_congr
    intro n hn
    have hn := List.mem_range.1 hn
    have := hex2_iff (UInt8.ofNat n) a b ha hb
    rw [UInt8.toNat_ofNat', Nat.mod_eq_of_lt (show n < 2 ^ 8 by omega)] at this
    rw [Bool.eq_iff_iff]
    simp only [Function.comp, beq_iff_eq]
    exact this
  rw [e, filter_one ⟨16 * (hv a).toNat + (hv b).toNat, by omega⟩]
  rfl
theorem hits_none (a b : UInt8) (h : hv a < 0 ∨ hv b < 0) : hits [a, b] 256 = [] := by
  unfold hits
  rw [List.filter_eq_nil_iff]
  intro c _ hc
  have hc' : hex2 c = [a, b] := by simpa using hc
  have hl := c.toNat_lt
  simp only [hex2, List.cons.injEq, and_true] at hc'
  have h1 := hv_sig ⟨c.toNat / 16, by omega⟩
  have h2 := hv_sig ⟨c.toNat % 16, Nat.mod_lt _ (by decide)⟩
  simp only [hc'.1, hc'.2] at h1 h2
  omega

theorem hits_len (a b : UInt8) : (hits [a, b] 256).length ≤ 1 := by
  by_cases h : hv a < 0 ∨ hv b < 0
  · rw [hits_none a b h]; simp
  · rw [hits_some a b (by omega) (by omega)]; simp
def unhexL : List UInt8 → Option (List UInt8)
  | [] => some []
  | [_] => none
  | a :: b :: r => match hits [a, b] 256 with
    | [] => none
    | c :: l => (unhexL r).map (c :: l ++ ·)
theorem unhexL_some {a b : UInt8} {r h : List UInt8} (e : hits [a, b] 256 = h) (h0 : h ≠ []) : unhexL (a :: b :: r) = (unhexL r).map (h ++ ·) := by
  conv => lhs; unfold unhexL
  rw [e]; cases h with
  | nil => exact absurd rfl h0
  | cons c l => rfl
theorem unhexL_none {a b : UInt8} {r : List UInt8} (e : hits [a, b] 256 = []) : unhexL (a :: b :: r) = none := by unfold unhexL; rw [e]
theorem unhexL_odd : ∀ (n : Nat) (l : List UInt8), l.length ≤ n → l.length % 2 = 1 → unhexL l = none
  | _, [], _, h => by simp at h
  | _, [_], _, _ => rfl
  | 0, _ :: _ :: _, h, _ => by simp at h
  | n + 1, a :: b :: r, h, h' => by
    simp only [List.length_cons] at h h'
    have := unhexL_odd n r (by omega) (by omega)
    unfold unhexL
    rw [this]
    split <;> rfl
def unhexRes (l : List UInt8) (bad good : Value) : Value := match unhexL l with
  | some r => .tuple #[.string ⟨r.toArray⟩, good]
  | none => .tuple #[.string ⟨#[]⟩, bad]
theorem map_app (o : Option (List UInt8)) (a b : List UInt8) : (o.map (b ++ ·)).map (a ++ ·) = o.map ((a ++ b) ++ ·) := by cases o <;> simp

set_option maxRecDepth 100000 in
theorem refUnhex (s : ByteArray) (w : World) (hs : s.size ≤ 1000000) (hd : Deb w) :
    Calls Tryd.prog 73 #[.string s] w fun e w' => e = .returned (unhexRes s.data.toList (.int .i64 3) (.int .i64 0)) ∧ Below w.heap.size w w' := by
  go_enter Tryd.func73, Tryd.ntmps73
  go_wp2
  go_loopg [0, 4] s.size (fun g x o wr => ∃ (T S : ByteArray), x = .string T ∧ o = .string S ∧ T.size ≤ g ∧ g ≤ s.size ∧ S.size + T.size ≤ s.size ∧ Hid (unhexL s.data.toList = (unhexL T.data.toList).map (S.data.toList ++ ·)) ∧ Below w.heap.size w wr)
  case atStart => exact ⟨s, ⟨#[]⟩, rfl, rfl, Nat.le_refl _, Nat.le_refl _, by show 0 + s.size ≤ s.size; omega, Lib.hid (by cases unhexL s.data.toList <;> simp), Below.refl _ _⟩
  case round =>
    obtain ⟨T, S, rfl, rfl, hT, hg, hST, hinv, hB⟩ := hrel
    by_cases h0 : T.size = 0
    · have hTl : T.data.toList = [] := List.length_eq_zero_iff.1 (by rw [← sz_len]; exact h0)
      have hTe : T.toList.isEmpty = true := by rw [Lib.toList_data, hTl]; rfl
      have hTl' := Lib.hid hTl
      clear h0 hTl
      go_wp2
      go_ret2
      exact ⟨by unfold unhexRes; rw [hinv.out, hTl'.out]; exact ret2 (congrArg Value.string (ba_eq (by simp))) rfl, hB⟩
    · have hTe : T.toList.isEmpty = false := by
        rw [Lib.toList_data]; cases hl : T.data.toList with
        | nil => rw [sz_len, hl] at h0; exact absurd rfl h0
        | cons a l => rfl
      by_cases h1 : T.size < 2
      · have hTl : Hid (unhexL T.data.toList = none) := by
          have : T.data.toList.length = 1 := by rw [← sz_len]; omega
          match hl : T.data.toList, this with
          | [a], _ => exact Lib.hid rfl
        clear h0
        go_wp2
        go_ret2
        exact ⟨by unfold unhexRes; rw [hinv.out, hTl.out]; rfl, hB⟩
      · obtain ⟨a, b, r, hTl⟩ : ∃ a b r, T.data.toList = a :: b :: r := by
          have : 2 ≤ T.data.toList.length := by rw [← sz_len]; omega
          match hl : T.data.toList, this with
          | a :: b :: r, _ => exact ⟨a, b, r, rfl⟩
        have hTl' := Lib.hid hTl; clear hTl
        have h2 : 2 ≤ T.size := by omega
        clear h0 h1
        go_wp2
        obtain ⟨wo, rfl⟩ : ∃ wo : World, wo = wr := ⟨_, rfl⟩
        go_loopg [4, 5, 12] 256 (fun g' o f i wi => ∃ (k : Nat) (U : ByteArray) (fb : Bool), k ≤ 256 ∧ g' = 256 - k ∧ i = .int .i64 k ∧ o = .string U ∧ f = .bool fb ∧ U.size ≤ S.size + k ∧ Hid (fb = !(hits [a, b] k).isEmpty) ∧ Hid (U.data.toList = S.data.toList ++ hits [a, b] k) ∧ Below w.heap.size w wi)
        case atStart => exact ⟨0, S, false, by decide, rfl, rfl, rfl, rfl, Nat.le_refl _, Lib.hid rfl, Lib.hid (by simp [hits]), hB⟩
        case round =>
          obtain ⟨k, U, fb, hk, hg', rfl, rfl, rfl, hUs, hfb, hU, hBi⟩ := hrel
          have hg'' := Lib.hid hg'; clear hg'
          by_cases hlt : k < 256
          · have hdr : Deb wr.drew := ⟨(hd.later hBi).one, (hd.later hBi).four⟩
            have hck : chr (k : Int) = UInt8.ofNat k := by
              unfold chr
              rw [show ((k : Int) % 256).toNat = k by omega]
            have hx := fun w' hd' => refHex ⟨#[chr (k : Int)]⟩ w' (by show 1 ≤ _; decide) hd'
            obtain ⟨X, hX⟩ : ∃ X : ByteArray, X = ⟨(hexL (⟨#[chr (k : Int)]⟩ : ByteArray).data.toList).toArray⟩ := ⟨_, rfl⟩
            rw [← hX] at hx
            have hXl : X.data.toList = hex2 (UInt8.ofNat k) := by rw [hX, mk_toList, hck]; simp [hexL]
            have hck' := Lib.hid hck
            clear hX hck
            have hY : (T.extract 0 2).data.toList = [a, b] := by rw [Lib.extract_data, hTl'.out]; rfl
            by_cases hh : hex2 (UInt8.ofNat k) = [a, b]
            · have hXY : (X.toList == (T.extract 0 2).toList) = true := by rw [Lib.toList_data, Lib.toList_data, hXl, hY, hh]; simp
              clear hXl hY
              have hh' := Lib.hid hh; clear hh
              go_wp2
              go_region_with (first | (go_at_call 92; refine (char_any _ _).mono ?_; rintro e w1 ⟨rfl, hBc⟩; have hd1 := hdr.later hBc) | (go_at_call 16; refine (hx _ hd1).mono ?_; rintro e w2 ⟨rfl, hBh⟩))
              have hB2 : Below w.heap.size w w2 := (hBi.drew.then (Nat.le_refl _) hBc).then (Nat.le_refl _) hBh
              go_wp2_with fail
              refine (char_any _ _).mono ?_
              rintro e w3 ⟨rfl, hBd⟩
              have hB3 := hB2.then (Nat.le_refl _) hBd
              have hadd := run_string_add_sum (P := Tryd.prog) w3 U ⟨#[chr (k : Int)]⟩ (by rw [show (⟨#[chr (k : Int)]⟩ : ByteArray).size = 1 from rfl]; omega)
              go_wp2
              go_roundg (256 - (k + 1))
              case rel =>
                exact ⟨k + 1, U ++ ⟨#[chr (k : Int)]⟩, true, by omega, rfl, by go_num, rfl, rfl, by rw [add_size, show (⟨#[chr (k : Int)]⟩ : ByteArray).size = 1 from rfl]; omega,
                  Lib.hid (by rw [hits_hit hh'.out]; simp), Lib.hid (by rw [add_toList, hU.out, hits_hit hh'.out, hck'.out]; simp), hB3⟩
              case measure => have := hg''.out; omega
            · have hXY : (X.toList == (T.extract 0 2).toList) = false := by rw [Lib.toList_data, Lib.toList_data, hXl, hY]; simpa using hh
              clear hXl hY
              have hh' := Lib.hid hh; clear hh
              go_wp2
              go_region_with (first | (go_at_call 92; refine (char_any _ _).mono ?_; rintro e w1 ⟨rfl, hBc⟩; have hd1 := hdr.later hBc) | (go_at_call 16; refine (hx _ hd1).mono ?_; rintro e w2 ⟨rfl, hBh⟩))
              have hB2 : Below w.heap.size w w2 := (hBi.drew.then (Nat.le_refl _) hBc).then (Nat.le_refl _) hBh
              go_wp2
              go_roundg (256 - (k + 1))
              case rel =>
                exact ⟨k + 1, U, fb, by omega, rfl, by go_num, rfl, rfl, by omega, Lib.hid (by rw [hits_miss hh'.out]; exact hfb.out), Lib.hid (by rw [hits_miss hh'.out]; exact hU.out), hB2⟩
              case measure => have := hg''.out; omega
          · obtain rfl : k = 256 := by omega
            have hTlen := sz_len T
            rw [hTl'.out] at hTlen
            simp only [List.length_cons] at hTlen
            have hs2 : T.size ≤ r.length + 2 := by omega
            have hrl : r.length + 2 ≤ T.size := by omega
            clear hTlen hlt
            cases hf : fb
            · have he : Hid (hits [a, b] 256 = []) := Lib.hid (by
                have := hfb.out; rw [hf] at this
                cases hh : hits [a, b] 256 with
                | nil => rfl
                | cons c l => rw [hh] at this; cases this)
              subst hf
              go_wp2
              go_ret2
              exact ⟨by unfold unhexRes; rw [hinv.out, hTl'.out, unhexL_none he.out]; rfl, hBi⟩
            · have he : hits [a, b] 256 ≠ [] := by
                intro hh
                have := hfb.out; rw [hf, hh] at this; cases this
              subst hf
              have hlen1 : (hits [a, b] 256).length ≤ 1 := hits_len a b
              have hUl := sz_len U
              rw [hU.out, List.length_append, ← sz_len] at hUl
              have hUs' : U.size ≤ S.size + 1 := by omega
              clear hUl hlen1
              have he' := Lib.hid he; clear he
              go_wp2
              go_roundg (T.size - 2)
              case rel =>
                have hT2 : (T.extract 2 T.size).data.toList = r := by rw [Lib.extract_to_end, hTl'.out]; rfl
                exact ⟨T.extract 2 T.size, U, rfl, rfl, by rw [sz_len, hT2]; omega, by omega, by rw [sz_len (T.extract 2 T.size), hT2]; omega, Lib.hid (by rw [hinv.out, hT2, hTl'.out, unhexL_some rfl he'.out, map_app, hU.out]), hBi⟩
              case measure => omega

theorem smallIdx (c : UInt8) (w : World) : Calls Tryd.prog 122 #[.string ⟨#[48, 49, 50, 51, 52, 53, 54, 55, 56, 57, 97, 98, 99, 100, 101, 102]⟩, .int .u8 (c.toNat : Int)] w fun e w' => e = .returned (.int .i64 (hv c)) ∧ w' = w := by
  refine (Tryd.strings_IndexByte _ _ _).mono ?_
  rintro e w' ⟨rfl, rfl⟩
  refine ⟨ret_int ?_, rfl⟩
  unfold hv smallL
  simp
theorem or_16 (x y : Nat) (hx : x < 16) (hy : y < 16) : bits .or .i64 ((x : Int) * 16) (y : Int) = ((16 * x + y : Nat) : Int) := by
  have h : ∀ (a b : Fin 16), bits .or .i64 ((a.val : Int) * 16) (b.val : Int) = ((16 * a.val + b.val : Nat) : Int) := by decide +kernel
  exact h ⟨x, hx⟩ ⟨y, hy⟩
theorem drop_two (l : List UInt8) (i : Nat) (h0 : i < l.length) (h : i + 1 < l.length) : l.drop i = l[i] :: l[i + 1] :: l.drop (i + 2) := by
  rw [List.drop_eq_getElem_cons h0, List.drop_eq_getElem_cons h]

set_option maxRecDepth 100000 in
theorem codingUnhex (s : ByteArray) (w : World) (hs : s.size ≤ 1000000) :
    Calls Tryd.prog 74 #[.string s] w fun e w' => e = .returned (unhexRes s.data.toList (.iface 75 (.int .i64 3)) .nilIface) ∧ Below w.heap.size w w' := by
  by_cases hodd : s.size % 2 = 1
  · have hn : Hid (unhexL s.data.toList = none) := Lib.hid (unhexL_odd _ _ (Nat.le_refl _) (by rw [← sz_len]; exact hodd))
    have hr : (((s.size : Int)) % 2 == 1) = true := by rw [beq_iff_eq]; omega
    clear hodd
    go_enter Tryd.func74, Tryd.ntmps74
    go_wp2
    go_ret2
    exact ⟨by unfold unhexRes; rw [hn.out]; rfl, Below.refl _ _⟩
  · have hr : (((s.size : Int)) % 2 == 1) = false := by rw [beq_eq_false_iff_ne]; omega
    have hev := Lib.hid hodd
    clear hodd
    have hnew := IsB.new w w.heap.size (Nat.le_refl _)
    have hB0 := (Below.refl w.heap.size w).alloc (Nat.le_refl _) (.cells #[.pointer none, .slice none 0 0] 120)
    go_enter Tryd.func74, Tryd.ntmps74
    go_wp2
    go_loopw [5] (fun i wr => ∃ (k : Nat) (l : List UInt8), k ≤ s.size ∧ Hid (k % 2 = 0) ∧ i = .int .i64 k ∧ l.length ≤ k ∧ IsB w.heap.size w.heap.size (Lib.byteCells l) wr ∧ Hid (unhexL s.data.toList = (unhexL (s.data.toList.drop k)).map (l ++ ·)) ∧ Below w.heap.size w wr) (fun i _ => s.size - (intOf i).toNat)
    case atStart => exact ⟨0, [], Nat.zero_le _, Lib.hid rfl, rfl, Nat.le_refl _, hnew, Lib.hid (by rw [List.drop_zero]; cases unhexL s.data.toList <;> simp), hB0⟩
    case round =>
      obtain ⟨k, l, hk, hkev, rfl, hl, hI, hinv, hB⟩ := hrel
      clear hnew hB0
      by_cases hlt : k < s.size
      · have hlt1 : k + 1 < s.size := by have := hev.out; have := hkev.out; omega
        have hl0 : k < s.data.toList.length := by rw [← sz_len]; exact hlt
        have hl1 : k + 1 < s.data.toList.length := by rw [← sz_len]; exact hlt1
        have hd2 := drop_two s.data.toList k hl0 hl1
        rw [at_list s k hlt hl0, at_list s (k + 1) hlt1 hl1] at hd2
        have hd2' := Lib.hid hd2
        clear hd2
        have hsize := hB.size
        have hsum : IntKind.i64.wrap ((k : Int) + 1) = (k : Int) + 1 := IntWalk.i64_in _ (by omega)
        have hsum0 : (0 : Int) ≤ (k : Int) + 1 := by omega
        have hsum1 : ((k : Int) + 1).toNat = k + 1 := by omega
        have hsum2 : (k : Int) + 1 < (s.size : Int) := by omega
        by_cases ha : 0 ≤ hv s[k]
        · by_cases hb : 0 ≤ hv s[k + 1]
          · have hH := Lib.hid (hits_some s[k] s[k + 1] ha hb)
            obtain ⟨ea, la⟩ := hv_back _ ha
            obtain ⟨eb, lb⟩ := hv_back _ hb
            clear ea eb
            obtain ⟨x, hx⟩ := Int.eq_ofNat_of_zero_le ha
            obtain ⟨y, hy⟩ := Int.eq_ofNat_of_zero_le hb
            have hxy : Hid ((hv s[k]).toNat = x ∧ (hv s[k + 1]).toNat = y) := Lib.hid ⟨by omega, by omega⟩
            have hx16 : x < 16 := by omega
            have hy16 : y < 16 := by omega
            have hor := or_16 x y hx16 hy16
            clear ha hb la lb
            go_wp2
            go_quiet ((go_at_call 122; exact Calls.quiet_of_same (smallIdx _ _)))
            clear hsum
            go_wp2_with fail
            refine (writeByte _ _ _ _ _ (hI.later (below_drewN (Below.refl _ _) nq)) (by rw [byteCells_len]; omega) hsize).mono ?_
            rintro e w1 ⟨rfl, hA1, hB1⟩
            have hBw1 : Below w.heap.size w w1 := (below_drewN hB nq).trans hB1
            go_wp2
            go_roundw
            case rel =>
              refine ⟨k + 2, l ++ [UInt8.ofNat (16 * x + y)], by omega, Lib.hid (by have := hkev.out; omega), rfl, by simp; omega, .inr ?_, Lib.hid ?_, hBw1⟩
              · rw [byteCells_snoc, show ((UInt8.ofNat (16 * x + y)).toNat : Int) = 16 * (x : Int) + (y : Int) by rw [UInt8.toNat_ofNat', Nat.mod_eq_of_lt (show 16 * x + y < 2 ^ 8 by omega)]; rfl]
                exact hA1
              · rw [hinv.out, hd2'.out, unhexL_some hH.out (by simp), map_app, hxy.out.1, hxy.out.2]
            case measure => simp [intOf]; omega
          · have hb' : hv s[k + 1] < 0 := by omega
            have hN : Hid (hits [s[k], s[k + 1]] 256 = []) := Lib.hid (hits_none _ _ (.inr hb'))
            go_wp2
            go_quiet ((go_at_call 122; exact Calls.quiet_of_same (smallIdx _ _)))
            go_wp2
            go_ret2
            exact ⟨by unfold unhexRes; rw [hinv.out, hd2'.out, unhexL_none hN.out]; rfl, below_drewN hB _⟩
        · have ha' : hv s[k] < 0 := by omega
          have hN : Hid (hits [s[k], s[k + 1]] 256 = []) := Lib.hid (hits_none _ _ (.inl ha'))
          go_wp2
          go_quiet ((go_at_call 122; exact Calls.quiet_of_same (smallIdx _ _)))
          go_wp2
          go_ret2
          exact ⟨by unfold unhexRes; rw [hinv.out, hd2'.out, unhexL_none hN.out]; rfl, below_drewN hB _⟩
      · obtain rfl : s.size = k := by omega
        have hfin : Hid (unhexL s.data.toList = some l) := Lib.hid (by rw [hinv.out, List.drop_eq_nil_of_le (by rw [sz_len]; exact Nat.le_refl _)]; simp [unhexL])
        go_wp2_with fail
        refine (Tryd.Builder_String_any _ _ _ _ hI hB.size).mono ?_
        rintro e w1 ⟨rfl, hB1⟩
        have hB2 := hB.trans hB1
        go_wp2
        go_ret2
        exact ⟨by unfold unhexRes; rw [hfin.out]; rfl, hB2⟩
end Go.Proofs.YtdpmhkineanloaaDoor
