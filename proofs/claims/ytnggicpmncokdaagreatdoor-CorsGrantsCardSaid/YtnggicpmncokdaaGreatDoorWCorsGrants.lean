/- CorsGrants: cors.Grant grants what the reference's Grant grants, for any small request and fields, at any time in bounds: the walk of the statement. -/
import Derived.Test.YtnggicpmncokdaaGreatDoorGrantH
import Derived.Test.YtnggicpmncokdaaGreatDoorFound
import Derived.OpenShut
import Derived.Deep.QuietTactic
import Derived.BigQuiet
namespace Go.Proofs.YtnggicpmncokdaaGreatDoor.lawCorsGrants
open Go.ChangeShapes Go.WideShapes Go.ChangeAt Go.RowKit Go.WideElems Go.Deep
set_option maxRecDepth 100000 in
set_option maxHeartbeats 2000000 in
theorem samePs (a b : Option Addr) (ca cb : Nat) (l : List Pass) (w : World) (hA : PassAt w a l) (hB : PassAt w b l) (hl : l.length ≤ 1048576) :
    Calls Tryz.prog 9 #[.slice a l.length ca, .slice b l.length cb] w fun e w' => e = .returned (.bool true) ∧ Below w.heap.size w w' := by
  go_enter Tryz.func9, Tryz.ntmps9
  go_wp2
  go_loopw [5] (fun i wr => ∃ k : Nat, k ≤ l.length ∧ i = .int .i64 k ∧ Hid (Below w.heap.size w wr)) (fun i _ => l.length - (intOf i).toNat)
  case atStart => exact ⟨0, Nat.zero_le _, rfl, Lib.hid (Below.refl _ _)⟩
  case round =>
    obtain ⟨k, hk, rfl, hBr⟩ := hrel
    by_cases hlt : k < l.length
    · obtain ⟨b1, o1, rfl, hc⟩ := (hA.later hBr.out) k hlt
      obtain ⟨b2, o2, rfl, hd⟩ := (hB.later hBr.out) k hlt
      generalize l[k] = x at hc hd
      obtain ⟨⟨s1, h1, p1⟩, ⟨s2, h2, p2⟩, path, query, creds, m, h, u⟩ := x
      have c0 : wr.cell? ⟨b1, o1 + k * 12, none⟩ = some (.bool s1) := hc 0 _ rfl
      have c1 : wr.cell? ⟨b1, o1 + k * 12 + 1, none⟩ = some (.string h1) := hc 1 _ rfl
      have c2 : wr.cell? ⟨b1, o1 + k * 12 + 2, none⟩ = some (.int .i64 p1) := hc 2 _ rfl
      have c3 : wr.cell? ⟨b1, o1 + k * 12 + 3, none⟩ = some (.bool s2) := hc 3 _ rfl
      have c4 : wr.cell? ⟨b1, o1 + k * 12 + 4, none⟩ = some (.string h2) := hc 4 _ rfl
      have c5 : wr.cell? ⟨b1, o1 + k * 12 + 5, none⟩ = some (.int .i64 p2) := hc 5 _ rfl
      have c6 : wr.cell? ⟨b1, o1 + k * 12 + 6, none⟩ = some (.string path) := hc 6 _ rfl
      have c7 : wr.cell? ⟨b1, o1 + k * 12 + 7, none⟩ = some (.string query) := hc 7 _ rfl
      have c8 : wr.cell? ⟨b1, o1 + k * 12 + 8, none⟩ = some (.bool creds) := hc 8 _ rfl
      have c9 : wr.cell? ⟨b1, o1 + k * 12 + 9, none⟩ = some (.string m) := hc 9 _ rfl
      have c10 : wr.cell? ⟨b1, o1 + k * 12 + 10, none⟩ = some (.string h) := hc 10 _ rfl
      have c11 : wr.cell? ⟨b1, o1 + k * 12 + 11, none⟩ = some (.int .i64 u) := hc 11 _ rfl
      have d0 : wr.cell? ⟨b2, o2 + k * 12, none⟩ = some (.bool s1) := hd 0 _ rfl
      have d1 : wr.cell? ⟨b2, o2 + k * 12 + 1, none⟩ = some (.string h1) := hd 1 _ rfl
      have d2 : wr.cell? ⟨b2, o2 + k * 12 + 2, none⟩ = some (.int .i64 p1) := hd 2 _ rfl
      have d3 : wr.cell? ⟨b2, o2 + k * 12 + 3, none⟩ = some (.bool s2) := hd 3 _ rfl
      have d4 : wr.cell? ⟨b2, o2 + k * 12 + 4, none⟩ = some (.string h2) := hd 4 _ rfl
      have d5 : wr.cell? ⟨b2, o2 + k * 12 + 5, none⟩ = some (.int .i64 p2) := hd 5 _ rfl
      have d6 : wr.cell? ⟨b2, o2 + k * 12 + 6, none⟩ = some (.string path) := hd 6 _ rfl
      have d7 : wr.cell? ⟨b2, o2 + k * 12 + 7, none⟩ = some (.string query) := hd 7 _ rfl
      have d8 : wr.cell? ⟨b2, o2 + k * 12 + 8, none⟩ = some (.bool creds) := hd 8 _ rfl
      have d9 : wr.cell? ⟨b2, o2 + k * 12 + 9, none⟩ = some (.string m) := hd 9 _ rfl
      have d10 : wr.cell? ⟨b2, o2 + k * 12 + 10, none⟩ = some (.string h) := hd 10 _ rfl
      have d11 : wr.cell? ⟨b2, o2 + k * 12 + 11, none⟩ = some (.int .i64 u) := hd 11 _ rfl
      clear hc hd hA hB
      go_wp2_with fail
      go_quiet (fail)
      go_wp2
      go_roundw
      case rel => exact ⟨k + 1, by omega, by go_num, Lib.hid (below_drewN hBr.out _)⟩
      case measure => simp [intOf]; omega
    · obtain rfl : l.length = k := by omega
      go_wp2
      go_ret
      exact ⟨rfl, hBr.out⟩
set_option maxRecDepth 100000 in
set_option maxHeartbeats 4000000 in
theorem walk (W : World) (hsh : W.ShapedOpen Tryz.prog) (hp : Pow W) (hg : ErrType W) (cs : List Value) (hR : Rd Tryz.prog W 28 cs) (a : Option Addr) (len cap : Nat) (hR2 : Rd Tryz.prog W 26 [.slice a len cap]) (now : Int) (_hwf : (Lit.int .i64 now).wf = true) :
    Calls Tryz.prog 3 #[.agg cs.toArray, .slice a len cap, .int .i64 now] W fun e w' => e = .returned (.bool true) ∧ Below W.heap.size W w' := by
  obtain ⟨r, rfl, hO⟩ := req_open hR
  obtain ⟨ps, rfl, hP, hz, hb, _⟩ := pars_open hR2
  have hM := maxL_of hsh
  have hO2 := headsReq_ok (cap := cap) hb hP hz
  have hL := fun w' (h : Below W.heap.size W w') => large_says r w' (hO.later h)
  have hL2 := fun w' (h : Below W.heap.size W w') => large_says (headsReq a cap ps) w' (hO2.later h)
  have hB0 : Hid (Below W.heap.size W (W.alloc (.cells r.arr tReq))) := Lib.hid ((Below.refl _ _).alloc (Nat.le_refl _) _)
  have hbx := Lib.hid (Blk.new W r.arr tReq)
  have hbx0 := hbx.out
  have hcg := fun (hs1 : largeB r = false) (hs2 : largeB (headsReq a cap ps) = false) (h0 : 0 ≤ now) (h1 : now ≤ 1099511627776) w' (h : Below W.heap.size W w') =>
    corsGrant w' r a cap ps now (hM.later h) (hp.later h) (hO.later h) (hP.later h) hz.sz (small_of hs2).few (fun p hp => by have := (small_of hs2).short p hp; omega) (Nat.le_trans (small_of hs1).few (by decide)) (fun p hp => by have := (small_of hs1).short p hp; omega) (by have := (small_of hs1).total; unfold Req.total at this; omega) h0 h1
  have hrg := fun (hs1 : largeB r = false) (hs2 : largeB (headsReq a cap ps) = false) (h0 : 0 ≤ now) (h1 : now ≤ 1099511627776) w' (h : Below W.heap.size W w') =>
    refGrant w' r a cap ps now (hM.later h) (hp.later h) (hO.later h) (hP.later h) hz.sz (small_of hs2).few (fun p hp => by have := (small_of hs2).short p hp; omega) (Nat.le_trans (small_of hs1).few (by decide)) (fun p hp => by have := (small_of hs1).short p hp; omega) (by have := (small_of hs1).total; unfold Req.total at this; omega) (by have := (small_of hs1).total; unfold Req.total at this; omega) h0 h1
  have hgl := fun (hs2 : largeB (headsReq a cap ps) = false) => show (grantV r ps now).1.length ≤ 1048576 from by
    unfold grantV
    split
    · simp
    · split
      · simp
      · split
        · simp
        · refine Nat.le_trans (onceB_len _) ?_
          rw [pairsB_len]
          have := meths_len r ps; have := heads_len ps; omega
  have hgH := Lib.hid hg
  clear hR hR2 hsh hO hO2 hM hp hg hP hz hb
  go_enter Tryz.func3, Tryz.ntmps3
  go_wp2_with (refine wpList_load_blk rfl tReq _ rfl _ rfl hbx0 _ Tryz.underlying28 rfl infoReqG ?_)
  refine (hL _ hB0.out).mono ?_
  rintro e w1 ⟨rfl, hB1⟩
  have hB01 := Lib.hid (hB0.out.then (Nat.le_refl _) hB1)
  have hbx1 := Lib.hid (hbx.out.later hB1)
  clear hL hB1 hbx0 hB0
  cases hlb : largeB r
  case true =>
    clear hcg hrg hL2 hgl hlb
    go_wp2
    go_ret
    exact ⟨rfl, hB01.out⟩
  case false =>
    have hcg := hcg hlb
    have hrg := hrg hlb
    clear hlb
    go_wp2_with fail
    refine (hL2 _ hB01.out).mono ?_
    rintro e w2 ⟨rfl, hB2⟩
    have hB02 := Lib.hid (hB01.out.then (Nat.le_refl _) hB2)
    have hbx2 := Lib.hid (hbx1.out.later hB2)
    clear hL2 hB2 hB01 hbx1
    cases hlb2 : largeB (headsReq a cap ps)
    case true =>
      clear hcg hrg hgl hlb2
      go_wp2
      go_ret
      exact ⟨rfl, hB02.out⟩
    case false =>
      have hcg := hcg hlb2
      have hrg := hrg hlb2
      have hgl := hgl hlb2
      clear hlb2
      by_cases h0 : now < 0
      · clear hcg hrg
        go_wp2
        go_ret
        exact ⟨rfl, hB02.out⟩
      · by_cases h1 : 1099511627776 < now
        · clear hcg hrg
          go_wp2
          go_ret
          exact ⟨rfl, hB02.out⟩
        · have hcg := hcg (by omega) (by omega)
          have hrg := hrg (by omega) (by omega)
          have hbx2' := hbx2.out
          generalize now + ageV ps = u at hcg hrg
          generalize grantV r ps now = gv at hcg hrg hgl
          go_wp2_with (refine wpList_load_blk rfl tReq _ rfl _ rfl hbx2' _ Tryz.underlying28 rfl infoReqG ?_)
          refine (hrg _ hB02.out).mono ?_
          rintro e w3 ⟨⟨a3, c3, rfl, hP3⟩, hB3⟩
          have hB03 := Lib.hid (hB02.out.then (Nat.le_refl _) hB3)
          have hbx3 := hbx2.out.later hB3
          have hP3' := Lib.hid hP3
          clear hrg hB3 hP3 hbx2' hbx2 hB02
          go_wp2_with (refine wpList_load_blk rfl tReq _ rfl _ rfl hbx3 _ Tryz.underlying28 rfl infoReqG ?_)
          refine (hcg _ hB03.out).mono ?_
          rintro e w4 ⟨⟨a4, c4, x, rfl, hP4, hE4⟩, hB4⟩
          have hB04 := Lib.hid (hB03.out.then (Nat.le_refl _) hB4)
          have hP34 := Lib.hid (hP3'.out.later hB4)
          have hP4' := Lib.hid hP4
          have hbare := bare_is gv.2 (hgH.out.later hB04.out) hE4
          clear hcg hB4 hP4 hP3' hbx3 hB03 hE4
          go_wp2_with fail
          refine hbare.mono ?_
          rintro e w5 ⟨rfl, hB5⟩
          have hB05 := Lib.hid (hB04.out.then (Nat.le_refl _) hB5)
          have hsp := samePs a4 a3 c4 c3 (gv.1.map (mkP r u)) w5 (hP4'.out.later hB5) (hP34.out.later hB5) (by rw [List.length_map]; exact hgl)
          rw [List.length_map] at hsp
          have e1 : ((gv.2 == gv.2) && ((-1 : Int) == -1)) = true := by simp
          rw [e1]
          clear hbare hB5 hP4' hP34 hB04
          go_wp2_with fail
          refine hsp.mono ?_
          rintro e w6 ⟨rfl, hB6⟩
          have hB06 := Lib.hid (hB05.out.then (Nat.le_refl _) hB6)
          clear hsp hB6
          go_wp2
          go_ret
          exact ⟨rfl, hB06.out⟩
end Go.Proofs.YtnggicpmncokdaaGreatDoor.lawCorsGrants
