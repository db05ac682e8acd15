/- proof.Basic and the reference's Basic: a header by user and password. -/
import Derived.Test.YtdlhihfjigcimaaDoorB64R
import Derived.Test.YtdlhihfjigcimaaDoorB64W
import Derived.Test.YtdlhihfjigcimaaDoorFoun2
import Derived.Test.YtdlhihfjigcimaaDoorSplit
import Derived.Test.YtdlhihfjigcimaaDoorCurs
import Derived.Test.YtdlhihfjigcimaaDoorFound
import Derived.Deep.DeepCutAuto
namespace Go.Proofs.YtdlhihfjigcimaaDoor
open Go.RowKit
def ctlB (c : UInt8) : Bool := decide (c.toNat < 32 ∨ c.toNat = 127)
def colonB (u : ByteArray) : Bool := decide (0 ≤ Lib.indexByte u.data.toList 58)
def credL (u p : ByteArray) : List UInt8 := u.data.toList ++ [58] ++ p.data.toList
def basicB (u p : ByteArray) : ByteArray := ⟨([66, 97, 115, 105, 99, 32] ++ b64 (credL u p)).toArray⟩
/-- what a Basic tells: which error (0: none), and the header -/
def basicRes (u p : ByteArray) : Int × ByteArray := if colonB u then (1, ⟨#[]⟩) else if u.data.toList.any ctlB || p.data.toList.any ctlB then (3, ⟨#[]⟩) else (0, basicB u p)
def errV (k : Int) : Value := if k = 0 then .nilIface else .iface 35 (.int .i64 k)
def resV (r : Int × ByteArray) : Value := .tuple #[.string r.2, errV r.1]
theorem any_take_stop {q : UInt8 → Bool} (s : ByteArray) (k : Nat) (h : k < s.size) (h0 : (s.data.toList.take k).any q = false) (e : q s[k] = false) : (s.data.toList.take (k + 1)).any q = false := by
  have hl : k < s.data.toList.length := by rw [← sz_len]; exact h
  rw [List.take_succ_eq_append_getElem hl, List.any_append, h0, at_list s k h hl]; simp [e]
theorem any_at {q : UInt8 → Bool} (s : ByteArray) (k : Nat) (h : k < s.size) (e : q s[k] = true) : s.data.toList.any q = true := by
  have hl : k < s.data.toList.length := by rw [← sz_len]; exact h
  rw [List.any_eq_true]; exact ⟨s.data.toList[k], List.getElem_mem hl, by rw [at_list s k h hl]; exact e⟩
theorem any_all {q : UInt8 → Bool} (s : ByteArray) (h0 : (s.data.toList.take s.size).any q = false) : s.data.toList.any q = false := by
  rwa [List.take_of_length_le (by rw [sz_len]; exact Nat.le_refl _)] at h0
theorem credL_len (u p : ByteArray) : (credL u p).length = u.size + 1 + p.size := by
  rw [sz_len u, sz_len p]
  unfold credL
  rw [List.length_append, List.length_append]; rfl
theorem cred_add (u p : ByteArray) : ((u ++ (⟨#[58]⟩ : ByteArray)) ++ p).data.toList = credL u p := by
  rw [add_toList, add_toList]; rfl
set_option maxRecDepth 100000 in
theorem proofBasic (u p : ByteArray) (w : World) (hu : u.size ≤ 40000) (hp : p.size ≤ 40000) :
    Calls Tryd.prog 20 #[.agg #[.string u, .string p]] w fun e w' => e = .returned (resV (basicRes u p)) ∧ Below w.heap.size w w' := by
  have hco := fun w' => Tryd.strings_Contains_one u 58 w'
  rw [show decide (0 ≤ Lib.indexByte u.data.toList 58) = colonB u from rfl] at hco
  cases hcb : colonB u
  · rw [hcb] at hco
    have hcl := credL_len u p
    have had := cred_add u p
    have hb6 := fun w' => codingBase64 ((u ++ (⟨#[58]⟩ : ByteArray)) ++ p) w' (by rw [sz_len, had, hcl]; omega)
    rw [had] at hb6
    have hbl := b64_len (credL u p)
    rw [hcl] at hbl
    obtain ⟨B, hB⟩ : ∃ B : ByteArray, B = ⟨(b64 (credL u p)).toArray⟩ := ⟨_, rfl⟩
    rw [← hB] at hb6
    have hBl : B.data.toList = b64 (credL u p) := by rw [hB]
    have hBs : B.size ≤ 200000 := by rw [sz_len, hBl]; omega
    have hBl' := Lib.hid hBl
    have hpc := pieces_at (w.alloc (.cells #[.string u, .string p] 45)) [u, p]
    clear hB hBl hcl had hbl
    have hw0 := Lib.hid ((Below.refl w.heap.size w).alloc (Nat.le_refl _) (.cells #[.string u, .string p] 45))
    go_enter Tryd.func20, Tryd.ntmps20
    go_wp2_with fail
    refine (hco _).mono ?_
    rintro e w1 ⟨rfl, rfl⟩
    clear hco
    go_wp2
    have hS : StrAt ((w.alloc (.cells #[.string u, .string p] 45)).alloc (.cells #[.string u, .string p] 9)) (some ⟨w.heap.size + 1, 0, none⟩) [u, p] := by simpa using hpc
    have hc0 : ((w.alloc (.cells #[.string u, .string p] 45)).alloc (.cells #[.string u, .string p] 9)).cell? ⟨w.heap.size, 0, none⟩ = some (.string u) ∧ ((w.alloc (.cells #[.string u, .string p] 45)).alloc (.cells #[.string u, .string p] 9)).cell? ⟨w.heap.size, 1, none⟩ = some (.string p) := by
      have hx : Below (w.heap.size + 1) (w.alloc (.cells #[.string u, .string p] 45)) ((w.alloc (.cells #[.string u, .string p] 45)).alloc (.cells #[.string u, .string p] 9)) := (Below.refl _ _).alloc (by simp) _
      exact ⟨box_cell hx 0 rfl, box_cell hx 1 rfl⟩
    have hw1 := Lib.hid (hw0.out.alloc (by simp) (.cells #[.string u, .string p] 9))
    clear hpc hw0
    generalize (w.alloc (.cells #[.string u, .string p] 45)).alloc (.cells #[.string u, .string p] 9) = w2 at hS hc0 hw1 ⊢
    obtain ⟨c0, c1⟩ := hc0
    obtain ⟨L, hL⟩ : ∃ L : List ByteArray, L = [u, p] := ⟨_, rfl⟩
    have hL2 : L.length = 2 := by rw [hL]; rfl
    have hLs : ∀ s ∈ L, s.size ≤ 40000 := by rw [hL]; simp; exact ⟨hu, hp⟩
    have hLa : Hid (L.any (fun s => s.data.toList.any ctlB) = (u.data.toList.any ctlB || p.data.toList.any ctlB)) := Lib.hid (by rw [hL]; simp)
    rw [← hL] at hS
    clear hL
    go_loop [17] (fun i => ∃ k : Nat, k ≤ L.length ∧ i = .int .i64 k ∧ Hid ((L.take k).any (fun s => s.data.toList.any ctlB) = false)) (fun i => L.length - (intOf i).toNat)
    case atStart => exact ⟨0, Nat.zero_le _, rfl, Lib.hid rfl⟩
    case round =>
      obtain ⟨k, hk, rfl, hN⟩ := hrel
      by_cases hlt : k < L.length
      · obtain ⟨b, off, hbo, hc⟩ := hS k hlt
        cases hbo
        rw [Nat.zero_add] at hc
        have hs := hLs _ (List.getElem_mem hlt)
        have hyes := Lib.hid (fun (h : L[k].data.toList.any ctlB = true) => (show basicRes u p = (3, ⟨#[]⟩) by
          unfold basicRes
          rw [hcb, ← hLa.out, show L.any (fun s => s.data.toList.any ctlB) = true from by rw [List.any_eq_true]; exact ⟨_, List.getElem_mem hlt, h⟩]; rfl))
        have hno := Lib.hid (fun (h : L[k].data.toList.any ctlB = false) => (show (L.take (k + 1)).any (fun s => s.data.toList.any ctlB) = false by
          rw [List.take_succ_eq_append_getElem hlt, List.any_append, hN.out]; simpa using h))
        generalize L[k] = s at hc hs hyes hno
        have hk2 : k < 2 := by omega
        go_wp2
        go_loop [23] (fun i => ∃ j : Nat, j ≤ s.size ∧ i = .int .i64 j ∧ Hid ((s.data.toList.take j).any ctlB = false)) (fun i => s.size - (intOf i).toNat)
        case atStart => exact ⟨0, Nat.zero_le _, rfl, Lib.hid rfl⟩
        case round =>
          obtain ⟨j, hj, rfl, hM⟩ := hrel
          by_cases hjt : j < s.size
          · have hbd := bd8 s[j]
            cases hq : ctlB s[j]
            · have hn := Lib.hid (any_take_stop s j hjt hM.out hq)
              unfold ctlB at hq
              have hq' := of_decide_eq_false hq
              have g1 : ¬ (s[j].toNat : Int) < 32 := by omega
              have g2 : ((s[j].toNat : Int) == 127) = false := by simp; omega
              clear hq hq'
              go_wp2
              go_round
              case rel => exact ⟨j + 1, by omega, by go_num, hn⟩
              case measure => simp [intOf]; omega
            · have hr := Lib.hid (hyes.out (any_at s j hjt hq))
              unfold ctlB at hq
              have hq' := of_decide_eq_true hq
              clear hq
              by_cases g1 : (s[j].toNat : Int) < 32
              · go_wp2
                go_ret2
                exact ⟨by rw [hr.out]; rfl, hw1.out⟩
              · have g2 : ((s[j].toNat : Int) == 127) = true := by simp; omega
                go_wp2
                go_ret2
                exact ⟨by rw [hr.out]; rfl, hw1.out⟩
          · obtain rfl : s.size = j := by omega
            have hn := Lib.hid (hno.out (any_all s hM.out))
            go_wp2
            go_round
            case rel => exact ⟨k + 1, by omega, by go_num, hn⟩
            case measure => simp [intOf]; omega
      · obtain rfl : L.length = k := by omega
        have hr := Lib.hid (show basicRes u p = (0, basicB u p) by
          unfold basicRes
          have := hN.out
          rw [List.take_length, hLa.out] at this
          rw [hcb, this]; rfl)
        go_wp2_with fail
        refine (hb6 _).mono ?_
        rintro e w3 ⟨rfl, hB3⟩
        have hB4 := Lib.hid (hw1.out.then (Nat.le_refl _) hB3)
        go_wp2
        go_ret2
        refine ⟨?_, hB4.out⟩
        rw [hr.out]
        exact ret2 (by
          show Value.string _ = Value.string (basicB u p)
          congr 1
          exact ba_ext (by unfold basicB; rw [add_toList, hBl'.out])) (by rfl)
  · rw [hcb] at hco
    have hr := Lib.hid (show basicRes u p = (1, ⟨#[]⟩) by unfold basicRes; rw [hcb]; rfl)
    go_enter Tryd.func20, Tryd.ntmps20
    go_wp2_with fail
    refine (hco _).mono ?_
    rintro e w1 ⟨rfl, rfl⟩
    go_wp2
    go_ret2
    exact ⟨by rw [hr.out]; rfl, (Below.refl _ _).alloc (Nat.le_refl _) _⟩
theorem any_add {q : UInt8 → Bool} (u p : ByteArray) : (u ++ p).data.toList.any q = (u.data.toList.any q || p.data.toList.any q) := by rw [add_toList, List.any_append]
set_option maxRecDepth 100000 in
theorem refBasic (u p : ByteArray) (w : World) (hu : u.size ≤ 40000) (hp : p.size ≤ 40000) (hd : Deb w) :
    Calls Tryd.prog 19 #[.agg #[.string u, .string p]] w fun e w' => e = .returned (.tuple #[.string (basicRes u p).2, .int .i64 (basicRes u p).1]) ∧ Below w.heap.size w w' := by
  have hco := fun w' => Tryd.strings_IndexByte u 58 w'
  rw [show ((58 : Int).toNat).toUInt8 = 58 from rfl] at hco
  cases hcb : colonB u
  · have hneg : Lib.indexByte u.data.toList 58 < 0 := by unfold colonB at hcb; have := of_decide_eq_false hcb; omega
    generalize Lib.indexByte u.data.toList 58 = ix at hco hneg
    have hcl := credL_len u p
    have had := cred_add u p
    have hb6 := fun w' hd => refBase64 ((u ++ (⟨#[58]⟩ : ByteArray)) ++ p) w' (by rw [sz_len, had, hcl]; omega) hd
    rw [had] at hb6
    have hbl := b64_len (credL u p)
    rw [hcl] at hbl
    obtain ⟨B, hB⟩ : ∃ B : ByteArray, B = ⟨(b64 (credL u p)).toArray⟩ := ⟨_, rfl⟩
    rw [← hB] at hb6
    have hBl : B.data.toList = b64 (credL u p) := by rw [hB]
    have hBs : B.size ≤ 200000 := by rw [sz_len, hBl]; omega
    have hBl' := Lib.hid hBl
    clear hB hBl hcl had hbl
    have hw0 := Lib.hid ((Below.refl w.heap.size w).alloc (Nat.le_refl _) (.cells #[.string u, .string p] 45))
    have hcv := fun w => run_bytes_of_string (P := Tryd.prog) w 9 99 5 (u ++ p) Tryd.underlying9 Tryd.underlying99 Tryd.underlying5
    have hsz : (u ++ p).size = u.size + p.size := add_size u p
    have hany : Hid ((u ++ p).data.toList.any ctlB = (u.data.toList.any ctlB || p.data.toList.any ctlB)) := Lib.hid (any_add u p)
    go_enter Tryd.func19, Tryd.ntmps19
    go_wp2_with fail
    refine (hco _).mono ?_
    rintro e w1 ⟨rfl, rfl⟩
    clear hco
    have hbb : Below (w.heap.size + 1) (w.alloc (.cells #[.string u, .string p] 45)) (w.alloc (.cells #[.string u, .string p] 45)) := Below.refl _ _
    have c0 := box_cell hbb 0 rfl
    have c1 := box_cell hbb 1 rfl
    have hlw : w.heap.size < (w.alloc (.cells #[.string u, .string p] 45)).heap.size := by simp
    clear hbb
    generalize w.alloc (.cells #[.string u, .string p] 45) = wB at c0 c1 hw0 hlw ⊢
    obtain ⟨s, hs⟩ : ∃ s, u ++ p = s := ⟨_, rfl⟩
    rw [hs] at hcv hsz hany
    have hsb : s.size ≤ 80000 := by omega
    have hsz' := Lib.hid hsz
    clear hsz
    go_wp2
    have hb0 := BytesAt.made wB s (grownCap wB s.size 0 5) ((bytesRow s (grownCap wB s.size 0 5)).size) ((bytesRow s (grownCap wB s.size 0 5)).size + 1) (bytesRow_size s _)
    have hB1 : Below wB.heap.size wB (wB.alloc (.cells (bytesRow s (grownCap wB s.size 0 5)) 5 ((bytesRow s (grownCap wB s.size 0 5)).size, (bytesRow s (grownCap wB s.size 0 5)).size + 1))).drew := ((Below.refl _ _).alloc (Nat.le_refl _) _).drew
    have hB2 := Lib.hid (hw0.out.trans (hB1.mono (Nat.le_of_lt hlw)))
    have d0 : _ = some (Value.string u) := (hB1.cell (p := ⟨w.heap.size, 0, none⟩) hlw).trans c0
    have d1 : _ = some (Value.string p) := (hB1.cell (p := ⟨w.heap.size, 1, none⟩) hlw).trans c1
    clear c0 c1 hB1 hw0 hcv
    generalize (wB.alloc (.cells (bytesRow s (grownCap wB s.size 0 5)) 5 ((bytesRow s (grownCap wB s.size 0 5)).size, (bytesRow s (grownCap wB s.size 0 5)).size + 1))).drew = wC at hb0 hB2 d0 d1 ⊢
    have hd3 := Lib.hid (hd.later hB2.out)
    clear hs hd
    go_loop [17] (fun i => ∃ k : Nat, k ≤ s.size ∧ i = .int .i64 k ∧ Hid ((s.data.toList.take k).any ctlB = false)) (fun i => s.size - (intOf i).toNat)
    case atStart => exact ⟨0, Nat.zero_le _, rfl, Lib.hid rfl⟩
    case round =>
      obtain ⟨k, hk, rfl, hN⟩ := hrel
      by_cases hlt : k < s.size
      · have hl : k < s.data.toList.length := by rw [← sz_len]; exact hlt
        have hc := hb0.cell k hl
        rw [at_list s k hlt hl] at hc
        have hbd := bd8 s[k]
        cases hq : ctlB s[k]
        · have hn := Lib.hid (any_take_stop s k hlt hN.out hq)
          unfold ctlB at hq
          have hq' := of_decide_eq_false hq
          have g1 : ¬ (s[k].toNat : Int) < 32 := by omega
          have g2 : ((s[k].toNat : Int) == 127) = false := by simp; omega
          clear hq hq'
          go_wp2
          go_round
          case rel => exact ⟨k + 1, by omega, by go_num, hn⟩
          case measure => simp [intOf]; omega
        · have hr := Lib.hid (show basicRes u p = (3, ⟨#[]⟩) by unfold basicRes; rw [hcb, ← hany.out, any_at s k hlt hq]; rfl)
          unfold ctlB at hq
          have hq' := of_decide_eq_true hq
          clear hq
          by_cases g1 : (s[k].toNat : Int) < 32
          · go_wp2
            go_ret2
            exact ⟨by rw [hr.out]; rfl, hB2.out⟩
          · have g2 : ((s[k].toNat : Int) == 127) = true := by simp; omega
            go_wp2
            go_ret2
            exact ⟨by rw [hr.out]; rfl, hB2.out⟩
      · obtain rfl : s.size = k := by omega
        have hr := Lib.hid (show basicRes u p = (0, basicB u p) by
          unfold basicRes
          rw [hcb, ← hany.out, any_all s hN.out]; rfl)
        go_wp2_with fail
        refine (hb6 _ hd3.out).mono ?_
        rintro e w3 ⟨rfl, hB3⟩
        have hB4 := Lib.hid (hB2.out.then (Nat.le_refl _) hB3)
        go_wp2
        go_ret2
        refine ⟨?_, hB4.out⟩
        rw [hr.out]
        exact ret2 (by
          show Value.string _ = Value.string (basicB u p)
          congr 1
          exact ba_ext (by unfold basicB; rw [add_toList, hBl'.out])) rfl
  · have hpos : 0 ≤ Lib.indexByte u.data.toList 58 := by unfold colonB at hcb; exact of_decide_eq_true hcb
    generalize Lib.indexByte u.data.toList 58 = ix at hco hpos
    have hr := Lib.hid (show basicRes u p = (1, ⟨#[]⟩) by unfold basicRes; rw [hcb]; rfl)
    clear hcb
    go_enter Tryd.func19, Tryd.ntmps19
    go_wp2_with fail
    refine (hco _).mono ?_
    rintro e w1 ⟨rfl, rfl⟩
    go_wp2
    go_ret2
    exact ⟨by rw [hr.out]; rfl, (Below.refl _ _).alloc (Nat.le_refl _) _⟩
end Go.Proofs.YtdlhihfjigcimaaDoor
