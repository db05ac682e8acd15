/- story.Line, and the reference's Print: an event as a line. -/
import Derived.Test.YtdlhihfjigcimaaDoorStoryT
import Derived.Test.YtdlhihfjigcimaaDoorPrint
import Derived.Test.YtdlhihfjigcimaaDoorOpV
import Derived.Deep.RegionHeld3
import Derived.BigRegion
namespace Go.Proofs.YtdlhihfjigcimaaDoor
open Go.RowKit Go.Deep
/-- an event -/
structure EvV where
  tab : Int
  op : OpV
  rw : Int
  head : ByteArray
  rc : Int
  from_ : Int
  upto : Int
abbrev EvV.arr (e : EvV) : Array Value := #[.int .i64 e.tab, .int .i64 e.op.what, .int .i64 e.op.req.part, .bool e.op.req.orig.sec, .string e.op.req.orig.host, .int .i64 e.op.req.orig.port, .bool e.op.req.dest.sec, .string e.op.req.dest.host, .int .i64 e.op.req.dest.port, .string e.op.req.path, .string e.op.req.query, .string e.op.req.method, .slice e.op.req.addr e.op.req.heads.length e.op.req.cap, .bool e.op.req.creds, .string e.op.req.body, .bool e.op.proxy, .string e.op.text, .string e.op.user, .string e.op.pass, .string e.op.cnonce, .int .i64 e.op.cert, .bool e.op.all, .int .i64 e.op.n, .int .i64 e.rw, .string e.head, .int .i64 e.rc, .int .i64 e.from_, .int .i64 e.upto]
structure EvV.Ok (w : World) (e : EvV) : Prop where
  tab : -9223372036854775808 ≤ e.tab ∧ e.tab ≤ 9223372036854775807
  op : e.op.Ok w
  head : e.head.size ≤ reachBytes
  rc : -9223372036854775808 ≤ e.rc ∧ e.rc ≤ 9223372036854775807
  from_ : -9223372036854775808 ≤ e.from_ ∧ e.from_ ≤ 9223372036854775807
  upto : -9223372036854775808 ≤ e.upto ∧ e.upto ≤ 9223372036854775807
theorem EvV.Ok.later {w w' : World} {e : EvV} (h : e.Ok w) (hb : Below w.heap.size w w') : e.Ok w' := ⟨h.tab, h.op.later hb, h.head, h.rc, h.from_, h.upto⟩
def itB (n : Int) : ByteArray := ⟨(Lib.itoa n).toArray⟩
def joinL (a b c nm d pr an : ByteArray) : ByteArray := ((((((((((((a ++ ((⟨#[45]⟩ : ByteArray) : ByteArray)) ++ b) ++ ((⟨#[32, 116, 97, 98, 32]⟩ : ByteArray) : ByteArray)) ++ c) ++ ((⟨#[32]⟩ : ByteArray) : ByteArray)) ++ nm) ++ ((⟨#[32]⟩ : ByteArray) : ByteArray)) ++ d) ++ ((⟨#[32]⟩ : ByteArray) : ByteArray)) ++ pr) ++ ((⟨#[58, 32]⟩ : ByteArray) : ByteArray)) ++ an)
def lineB (e : EvV) : ByteArray := joinL (itB e.from_) (itB e.upto) (itB e.tab) (nameR e.op.what) (itB e.op.req.part) (printB e.op.req.dest.sec e.op.req.dest.host e.op.req.dest.port e.op.req.path e.op.req.query) (ansV e.rw e.rc e.head (quoteOf e.head))
theorem ls1 : ((⟨#[45]⟩ : ByteArray) : ByteArray).size = 1 := rfl
theorem ls2 : ((⟨#[32, 116, 97, 98, 32]⟩ : ByteArray) : ByteArray).size = 5 := rfl
theorem ls3 : ((⟨#[32]⟩ : ByteArray) : ByteArray).size = 1 := rfl
theorem ls4 : ((⟨#[58, 32]⟩ : ByteArray) : ByteArray).size = 2 := rfl
theorem nameR_size (n : Int) : (nameR n).size ≤ 100 := by
  unfold nameR nameT
  (repeat' split) <;> decide
theorem ansV_size (k c : Int) (t q : ByteArray) (hq : q.size ≤ 1000000) (hi : (itB c).size ≤ 100) : (ansV k c t q).size ≤ 3000000 := by
  unfold ansV
  split
  · rename_i h
    have := baseT_size h.1 h.2
    unfold ansR
    rw [add_size, add_size]
    have h1 : (if t.toList.isEmpty = true then (⟨#[]⟩ : ByteArray) else ⟨#[32]⟩ ++ q).size ≤ 1000001 := by
      split
      · exact Nat.zero_le _
      · rw [add_size]; show 1 + q.size ≤ _; omega
    have h2 : (if (c == 0) = true then (⟨#[]⟩ : ByteArray) else ⟨#[32, 99, 101, 114, 116, 32]⟩ ++ ⟨(Lib.itoa c).toArray⟩).size ≤ 106 := by
      split
      · exact Nat.zero_le _
      · rw [add_size]; show 6 + (itB c).size ≤ _; omega
    omega
  · decide
theorem printB_size (sec : Bool) (host : ByteArray) (port : Int) (path query : ByteArray) (h0 : -9223372036854775808 ≤ port) (h1 : port ≤ 9223372036854775807) (z0 : host.size ≤ 1000) (z1 : path.size ≤ 1000) (z2 : query.size ≤ 1000) : (printB sec host port path query).size ≤ 10000 := by
  unfold printB
  have h := originL_len sec host port h0 h1
  have h2 := targetB_size path query
  rw [add_size, show (⟨(originL sec host port).toArray⟩ : ByteArray).size = (originL sec host port).length by rw [Lib.size_eq]]
  omega
/-- what an event must be to be written -/
structure EvV.Small (e : EvV) : Prop where
  part : -9223372036854775808 ≤ e.op.req.part ∧ e.op.req.part ≤ 9223372036854775807
  port : -9223372036854775808 ≤ e.op.req.dest.port ∧ e.op.req.dest.port ≤ 9223372036854775807
  host : e.op.req.dest.host.size ≤ 1000
  path : e.op.req.path.size ≤ 1000
  query : e.op.req.query.size ≤ 1000
  head : e.head.size ≤ 300
theorem evCells {w : World} {p : Nat} {e : EvV} {T : TypeId} (h : Blk w p e.arr T) : w.cell? ⟨p, 0, none⟩ = some (.int .i64 e.tab) ∧ w.cell? ⟨p, 1, none⟩ = some (.int .i64 e.op.what) ∧ w.cell? ⟨p, 2, none⟩ = some (.int .i64 e.op.req.part) ∧ w.cell? ⟨p, 6, none⟩ = some (.bool e.op.req.dest.sec) ∧ w.cell? ⟨p, 7, none⟩ = some (.string e.op.req.dest.host) ∧ w.cell? ⟨p, 8, none⟩ = some (.int .i64 e.op.req.dest.port) ∧ w.cell? ⟨p, 9, none⟩ = some (.string e.op.req.path) ∧ w.cell? ⟨p, 10, none⟩ = some (.string e.op.req.query) ∧ w.cell? ⟨p, 23, none⟩ = some (.int .i64 e.rw) ∧ w.cell? ⟨p, 24, none⟩ = some (.string e.head) ∧ w.cell? ⟨p, 25, none⟩ = some (.int .i64 e.rc) ∧ w.cell? ⟨p, 26, none⟩ = some (.int .i64 e.from_) ∧ w.cell? ⟨p, 27, none⟩ = some (.int .i64 e.upto) :=
  ⟨h.cell 0 rfl, h.cell 1 rfl, h.cell 2 rfl, h.cell 6 rfl, h.cell 7 rfl, h.cell 8 rfl, h.cell 9 rfl, h.cell 10 rfl, h.cell 23 rfl, h.cell 24 rfl, h.cell 25 rfl, h.cell 26 rfl, h.cell 27 rfl⟩
theorem joinL_size {a b c nm d pr an : ByteArray} (za : a.size ≤ 100) (zb : b.size ≤ 100) (zc : c.size ≤ 100) (zd : d.size ≤ 100) (zn : nm.size ≤ 100) (zp : pr.size ≤ 10000) (zz : an.size ≤ 3000000) : (joinL a b c nm d pr an).size ≤ 3011000 := by
  unfold joinL
  simp only [add_size]
  rw [ls1, ls2, ls3, ls4]
  omega
set_option maxRecDepth 100000 in
set_option maxHeartbeats 8000000 in
theorem storyLine (e : EvV) (w : World) (hO : e.Ok w) (hS : e.Small) (hT : StoryT w) :
    Calls Tryd.prog 25 #[.agg e.arr] w fun x w' => x = .returned (.string (lineB e)) ∧ Below w.heap.size w w' := by
  have cA := fun (w' : World) (h : Below w.heap.size w w') => itoa_is e.from_ hO.from_.1 hO.from_.2 w' (hT.later h).pow
  have cB := fun (w' : World) (h : Below w.heap.size w w') => itoa_is e.upto hO.upto.1 hO.upto.2 w' (hT.later h).pow
  have cC := fun (w' : World) (h : Below w.heap.size w w') => itoa_is e.tab hO.tab.1 hO.tab.2 w' (hT.later h).pow
  have cD := fun (w' : World) (h : Below w.heap.size w w') => itoa_is e.op.req.part hS.part.1 hS.part.2 w' (hT.later h).pow
  have cN := fun (w' : World) => storyName e.op.what w'
  have cP := fun (w' : World) (h : Below w.heap.size w w') => urlPrint e.op.req.dest.sec e.op.req.dest.host e.op.req.dest.port e.op.req.path e.op.req.query hS.port.1 hS.port.2 w' (hT.later h).pow hS.host hS.path hS.query
  have cZ := fun (w' : World) (h : Below w.heap.size w w') => storyAnswer e.rw e.rc e.head (quoteOf e.head) w' (fun w2 h2 => quote_is e.head hS.head w2 (hT.later (h.then (Nat.le_refl _) h2))) (fun w2 h2 => itoa_is e.rc hO.rc.1 hO.rc.2 w2 (hT.later (h.then (Nat.le_refl _) h2)).pow) (quoteOf_size e.head hS.head) (itoa_small e.rc hO.rc.1 hO.rc.2)
  have za := itoa_small e.from_ hO.from_.1 hO.from_.2
  have zb := itoa_small e.upto hO.upto.1 hO.upto.2
  have zc := itoa_small e.tab hO.tab.1 hO.tab.2
  have zd := itoa_small e.op.req.part hS.part.1 hS.part.2
  have zn := nameR_size e.op.what
  have zp := printB_size e.op.req.dest.sec e.op.req.dest.host e.op.req.dest.port e.op.req.path e.op.req.query hS.port.1 hS.port.2 hS.host hS.path hS.query
  have zz := ansV_size e.rw e.rc e.head (quoteOf e.head) (quoteOf_size e.head hS.head) (itoa_small e.rc hO.rc.1 hO.rc.2)
  unfold lineB itB
  generalize (⟨(Lib.itoa e.from_).toArray⟩ : ByteArray) = a at cA za ⊢
  generalize (⟨(Lib.itoa e.upto).toArray⟩ : ByteArray) = b at cB zb ⊢
  generalize (⟨(Lib.itoa e.tab).toArray⟩ : ByteArray) = c at cC zc ⊢
  generalize (⟨(Lib.itoa e.op.req.part).toArray⟩ : ByteArray) = d at cD zd ⊢
  generalize nameR e.op.what = nm at cN zn ⊢
  generalize printB e.op.req.dest.sec e.op.req.dest.host e.op.req.dest.port e.op.req.path e.op.req.query = pr at cP zp ⊢
  generalize ansV e.rw e.rc e.head (quoteOf e.head) = an at cZ zz ⊢
  clear hS hT hO
  unfold joinL
  have ad0 := fun w' => run_string_add_sum (P := Tryd.prog) w' a ((⟨#[45]⟩ : ByteArray) : ByteArray) (by (try simp only [add_size]); (try rw [ls1]); (try rw [ls2]); (try rw [ls3]); (try rw [ls4]); omega)
  have ad1 := fun w' => run_string_add_sum (P := Tryd.prog) w' (a ++ ((⟨#[45]⟩ : ByteArray) : ByteArray)) b (by (try simp only [add_size]); (try rw [ls1]); (try rw [ls2]); (try rw [ls3]); (try rw [ls4]); omega)
  have ad2 := fun w' => run_string_add_sum (P := Tryd.prog) w' ((a ++ ((⟨#[45]⟩ : ByteArray) : ByteArray)) ++ b) ((⟨#[32, 116, 97, 98, 32]⟩ : ByteArray) : ByteArray) (by (try simp only [add_size]); (try rw [ls1]); (try rw [ls2]); (try rw [ls3]); (try rw [ls4]); omega)
  have ad3 := fun w' => run_string_add_sum (P := Tryd.prog) w' (((a ++ ((⟨#[45]⟩ : ByteArray) : ByteArray)) ++ b) ++ ((⟨#[32, 116, 97, 98, 32]⟩ : ByteArray) : ByteArray)) c (by (try simp only [add_size]); (try rw [ls1]); (try rw [ls2]); (try rw [ls3]); (try rw [ls4]); omega)
  have ad4 := fun w' => run_string_add_sum (P := Tryd.prog) w' ((((a ++ ((⟨#[45]⟩ : ByteArray) : ByteArray)) ++ b) ++ ((⟨#[32, 116, 97, 98, 32]⟩ : ByteArray) : ByteArray)) ++ c) ((⟨#[32]⟩ : ByteArray) : ByteArray) (by (try simp only [add_size]); (try rw [ls1]); (try rw [ls2]); (try rw [ls3]); (try rw [ls4]); omega)
  have ad5 := fun w' => run_string_add_sum (P := Tryd.prog) w' (((((a ++ ((⟨#[45]⟩ : ByteArray) : ByteArray)) ++ b) ++ ((⟨#[32, 116, 97, 98, 32]⟩ : ByteArray) : ByteArray)) ++ c) ++ ((⟨#[32]⟩ : ByteArray) : ByteArray)) nm (by (try simp only [add_size]); (try rw [ls1]); (try rw [ls2]); (try rw [ls3]); (try rw [ls4]); omega)
  have ad6 := fun w' => run_string_add_sum (P := Tryd.prog) w' ((((((a ++ ((⟨#[45]⟩ : ByteArray) : ByteArray)) ++ b) ++ ((⟨#[32, 116, 97, 98, 32]⟩ : ByteArray) : ByteArray)) ++ c) ++ ((⟨#[32]⟩ : ByteArray) : ByteArray)) ++ nm) ((⟨#[32]⟩ : ByteArray) : ByteArray) (by (try simp only [add_size]); (try rw [ls1]); (try rw [ls2]); (try rw [ls3]); (try rw [ls4]); omega)
  have ad7 := fun w' => run_string_add_sum (P := Tryd.prog) w' (((((((a ++ ((⟨#[45]⟩ : ByteArray) : ByteArray)) ++ b) ++ ((⟨#[32, 116, 97, 98, 32]⟩ : ByteArray) : ByteArray)) ++ c) ++ ((⟨#[32]⟩ : ByteArray) : ByteArray)) ++ nm) ++ ((⟨#[32]⟩ : ByteArray) : ByteArray)) d (by (try simp only [add_size]); (try rw [ls1]); (try rw [ls2]); (try rw [ls3]); (try rw [ls4]); omega)
  have ad8 := fun w' => run_string_add_sum (P := Tryd.prog) w' ((((((((a ++ ((⟨#[45]⟩ : ByteArray) : ByteArray)) ++ b) ++ ((⟨#[32, 116, 97, 98, 32]⟩ : ByteArray) : ByteArray)) ++ c) ++ ((⟨#[32]⟩ : ByteArray) : ByteArray)) ++ nm) ++ ((⟨#[32]⟩ : ByteArray) : ByteArray)) ++ d) ((⟨#[32]⟩ : ByteArray) : ByteArray) (by (try simp only [add_size]); (try rw [ls1]); (try rw [ls2]); (try rw [ls3]); (try rw [ls4]); omega)
  have ad9 := fun w' => run_string_add_sum (P := Tryd.prog) w' (((((((((a ++ ((⟨#[45]⟩ : ByteArray) : ByteArray)) ++ b) ++ ((⟨#[32, 116, 97, 98, 32]⟩ : ByteArray) : ByteArray)) ++ c) ++ ((⟨#[32]⟩ : ByteArray) : ByteArray)) ++ nm) ++ ((⟨#[32]⟩ : ByteArray) : ByteArray)) ++ d) ++ ((⟨#[32]⟩ : ByteArray) : ByteArray)) pr (by (try simp only [add_size]); (try rw [ls1]); (try rw [ls2]); (try rw [ls3]); (try rw [ls4]); omega)
  have ad10 := fun w' => run_string_add_sum (P := Tryd.prog) w' ((((((((((a ++ ((⟨#[45]⟩ : ByteArray) : ByteArray)) ++ b) ++ ((⟨#[32, 116, 97, 98, 32]⟩ : ByteArray) : ByteArray)) ++ c) ++ ((⟨#[32]⟩ : ByteArray) : ByteArray)) ++ nm) ++ ((⟨#[32]⟩ : ByteArray) : ByteArray)) ++ d) ++ ((⟨#[32]⟩ : ByteArray) : ByteArray)) ++ pr) ((⟨#[58, 32]⟩ : ByteArray) : ByteArray) (by (try simp only [add_size]); (try rw [ls1]); (try rw [ls2]); (try rw [ls3]); (try rw [ls4]); omega)
  have ad11 := fun w' => run_string_add_sum (P := Tryd.prog) w' (((((((((((a ++ ((⟨#[45]⟩ : ByteArray) : ByteArray)) ++ b) ++ ((⟨#[32, 116, 97, 98, 32]⟩ : ByteArray) : ByteArray)) ++ c) ++ ((⟨#[32]⟩ : ByteArray) : ByteArray)) ++ nm) ++ ((⟨#[32]⟩ : ByteArray) : ByteArray)) ++ d) ++ ((⟨#[32]⟩ : ByteArray) : ByteArray)) ++ pr) ++ ((⟨#[58, 32]⟩ : ByteArray) : ByteArray)) an (by (try simp only [add_size]); (try rw [ls1]); (try rw [ls2]); (try rw [ls3]); (try rw [ls4]); omega)
  have hE := fun w' (h : Below (w.heap.size + 1) (w.alloc (Obj.cells e.arr 67)) w') => (⟨h, evCells (p := w.heap.size) (Blk.later (Blk.new w e.arr 67) (by simpa using h))⟩ : Below (w.heap.size + 1) (w.alloc (Obj.cells e.arr 67)) w' ∧ (w'.cell? ⟨w.heap.size, 0, none⟩ = some (.int .i64 e.tab) ∧ w'.cell? ⟨w.heap.size, 1, none⟩ = some (.int .i64 e.op.what) ∧ w'.cell? ⟨w.heap.size, 2, none⟩ = some (.int .i64 e.op.req.part) ∧ w'.cell? ⟨w.heap.size, 6, none⟩ = some (.bool e.op.req.dest.sec) ∧ w'.cell? ⟨w.heap.size, 7, none⟩ = some (.string e.op.req.dest.host) ∧ w'.cell? ⟨w.heap.size, 8, none⟩ = some (.int .i64 e.op.req.dest.port) ∧ w'.cell? ⟨w.heap.size, 9, none⟩ = some (.string e.op.req.path) ∧ w'.cell? ⟨w.heap.size, 10, none⟩ = some (.string e.op.req.query) ∧ w'.cell? ⟨w.heap.size, 23, none⟩ = some (.int .i64 e.rw) ∧ w'.cell? ⟨w.heap.size, 24, none⟩ = some (.string e.head) ∧ w'.cell? ⟨w.heap.size, 25, none⟩ = some (.int .i64 e.rc) ∧ w'.cell? ⟨w.heap.size, 26, none⟩ = some (.int .i64 e.from_) ∧ w'.cell? ⟨w.heap.size, 27, none⟩ = some (.int .i64 e.upto)))
  obtain ⟨tab, ⟨what, ⟨part, ⟨s1, h1, p1⟩, ⟨s2, h2, p2⟩, path, query, method, addr, cap, heads, creds, body⟩, proxy, text, user, pass, cn, cert, all, n⟩, rw_, head, rc, from_, upto⟩ := e
  dsimp only at *
  go_enter Tryd.func25, Tryd.ntmps25
  go_wp2_with fail
  go_region_held3 (fun w' => Below (w.heap.size + 1) (w.alloc (Obj.cells #[.int .i64 tab, .int .i64 what, .int .i64 part, .bool s1, .string h1, .int .i64 p1, .bool s2, .string h2, .int .i64 p2, .string path, .string query, .string method, .slice addr heads.length cap, .bool creds, .string body, .bool proxy, .string text, .string user, .string pass, .string cn, .int .i64 cert, .bool all, .int .i64 n, .int .i64 rw_, .string head, .int .i64 rc, .int .i64 from_, .int .i64 upto] 67)) w' ∧ (w'.cell? ⟨w.heap.size, 0, none⟩ = some (.int .i64 tab) ∧ w'.cell? ⟨w.heap.size, 1, none⟩ = some (.int .i64 what) ∧ w'.cell? ⟨w.heap.size, 2, none⟩ = some (.int .i64 part) ∧ w'.cell? ⟨w.heap.size, 6, none⟩ = some (.bool s2) ∧ w'.cell? ⟨w.heap.size, 7, none⟩ = some (.string h2) ∧ w'.cell? ⟨w.heap.size, 8, none⟩ = some (.int .i64 p2) ∧ w'.cell? ⟨w.heap.size, 9, none⟩ = some (.string path) ∧ w'.cell? ⟨w.heap.size, 10, none⟩ = some (.string query) ∧ w'.cell? ⟨w.heap.size, 23, none⟩ = some (.int .i64 rw_) ∧ w'.cell? ⟨w.heap.size, 24, none⟩ = some (.string head) ∧ w'.cell? ⟨w.heap.size, 25, none⟩ = some (.int .i64 rc) ∧ w'.cell? ⟨w.heap.size, 26, none⟩ = some (.int .i64 from_) ∧ w'.cell? ⟨w.heap.size, 27, none⟩ = some (.int .i64 upto)))
    (first | (exact hE _ (Below.refl _ _).drew) | (go_split_ands; exact hE _ ((by assumption : Below (w.heap.size + 1) _ _).then (by simp) (by assumption))) | (go_split_ands; exact hE _ (by assumption)))
    (first
      | (go_at_call 69; go_split_ands; refine (cA _ (below_box (by assumption))).mono ?_; rintro x w2 ⟨rfl, hB2⟩; clear cA)
      | (go_at_call 69; go_split_ands; refine (cB _ (below_box (by assumption))).mono ?_; rintro x w2 ⟨rfl, hB2⟩; clear cB)
      | (go_at_call 69; go_split_ands; refine (cC _ (below_box (by assumption))).mono ?_; rintro x w2 ⟨rfl, hB2⟩; clear cC)
      | (go_at_call 70; go_split_ands; refine (cN _).mono ?_; rintro x w2 ⟨rfl, rfl⟩)
      | (go_at_call 69; go_split_ands; refine (cD _ (below_box (by assumption))).mono ?_; rintro x w2 ⟨rfl, hB2⟩; clear cD)
      | (go_at_call 71; go_split_ands; refine (cP _ (below_box (by assumption))).mono ?_; rintro x w2 ⟨rfl, hB2⟩)
      | (go_at_call 72; go_split_ands; refine (cZ _ (below_box (by assumption))).mono ?_; rintro x w2 ⟨rfl, hB2⟩)
      | fail)
  all_goals
    go_split_ands
    go_wp2
    go_ret
    exact ⟨rfl, below_box (by assumption)⟩
/-- events as lines -/
def linesL (es : List EvV) : List UInt8 := es.flatMap fun e => (lineB e).data.toList ++ [10]
theorem linesL_succ (es : List EvV) (k : Nat) (h : k < es.length) : linesL (es.take (k + 1)) = linesL (es.take k) ++ ((lineB es[k]).data.toList ++ [10]) := by
  unfold linesL; rw [List.take_succ_eq_append_getElem h, List.flatMap_append]; simp
theorem lineB_size (e : EvV) {w : World} (hO : e.Ok w) (hS : e.Small) : (lineB e).size ≤ 3011000 :=
  joinL_size (itoa_small e.from_ hO.from_.1 hO.from_.2) (itoa_small e.upto hO.upto.1 hO.upto.2) (itoa_small e.tab hO.tab.1 hO.tab.2) (itoa_small e.op.req.part hS.part.1 hS.part.2) (nameR_size e.op.what)
    (printB_size e.op.req.dest.sec e.op.req.dest.host e.op.req.dest.port e.op.req.path e.op.req.query hS.port.1 hS.port.2 hS.host hS.path hS.query) (ansV_size e.rw e.rc e.head (quoteOf e.head) (quoteOf_size e.head hS.head) (itoa_small e.rc hO.rc.1 hO.rc.2))
abbrev tEvR : TypeId := 64
abbrev zEv : Array Value := #[.int .i64 0, .int .i64 0, .int .i64 0, .bool false, .string ⟨#[]⟩, .int .i64 0, .bool false, .string ⟨#[]⟩, .int .i64 0, .string ⟨#[]⟩, .string ⟨#[]⟩, .string ⟨#[]⟩, .slice none 0 0, .bool false, .string ⟨#[]⟩, .bool false, .string ⟨#[]⟩, .string ⟨#[]⟩, .string ⟨#[]⟩, .string ⟨#[]⟩, .int .i64 0, .bool false, .int .i64 0, .int .i64 0, .string ⟨#[]⟩, .int .i64 0, .int .i64 0, .int .i64 0]
theorem infoEvR : (Tryd.prog.info? 64).map (·.size) = some 28 := by kernel_rfl
theorem ev_one (e : EvV) : e.arr.all (·.oneCell') = true :=
  all_oneCell_toArray (cs := e.arr.toList) (by
    intro v hv
    simp only [List.mem_cons, List.not_mem_nil, or_false] at hv
    rcases hv with rfl | rfl | rfl | rfl | rfl | rfl | rfl | rfl | rfl | rfl | rfl | rfl | rfl | rfl | rfl | rfl | rfl | rfl | rfl | rfl | rfl | rfl | rfl | rfl | rfl | rfl | rfl | rfl <;> rfl)
/-- events in a row -/
def EvAt (w : World) (a : Option Addr) (es : List EvV) : Prop := RowAt 28 (fun e : EvV => e.arr.toList) w a es
theorem EvAt.later {w w' : World} {a : Option Addr} {es : List EvV} (h : EvAt w a es) (hb : Below w.heap.size w w') : EvAt w' a es := RowAt.later h hb
set_option maxRecDepth 100000 in
set_option maxHeartbeats 16000000 in
theorem refPrintEv (a0 : Option Addr) (cap0 : Nat) (es : List EvV) (w : World) (hR : EvAt w a0 es) (hO : ∀ e ∈ es, e.Ok w) (hS : ∀ e ∈ es, e.Small) (hT : StoryT w) (hn : es.length ≤ 100) :
    Calls Tryd.prog 27 #[.slice a0 es.length cap0] w fun x w' => x = .returned (.string ⟨(linesL es).toArray⟩) ∧ Below w.heap.size w w' := by
  go_enter Tryd.func27, Tryd.ntmps27
  go_wp2
  go_loopw [3, 8] (fun o i wr => ∃ (k : Nat) (S : ByteArray), k ≤ es.length ∧ o = .string S ∧ i = .int .i64 k ∧ S.size ≤ 3100000 * k ∧ Hid (S.data.toList = linesL (es.take k)) ∧ Hid (Below w.heap.size w wr)) (fun _ i _ => es.length - (intOf i).toNat)
  case atStart => exact ⟨0, ⟨#[]⟩, Nat.zero_le _, rfl, rfl, Nat.zero_le _, Lib.hid rfl, Lib.hid (Below.refl _ _)⟩
  case round =>
    obtain ⟨k, S, hk, rfl, rfl, hSz, hL, hB⟩ := hrel
    by_cases hlt : k < es.length
    · obtain ⟨bb, off, rfl, hc⟩ := (hR.later hB.out) k hlt
      have hnx := Lib.hid (linesL_succ es k hlt)
      have hSm := hS _ (List.getElem_mem hlt)
      have hOk := hO _ (List.getElem_mem hlt)
      have hlz := lineB_size _ hOk hSm
      generalize es[k] = e at hc hnx hSm hOk hlz
      have hTr := hT.later hB.out
      have cA := fun (w' : World) (h : Below wr.heap.size wr w') => itoa_is e.from_ hOk.from_.1 hOk.from_.2 w' (hTr.later h).pow
      have cB := fun (w' : World) (h : Below wr.heap.size wr w') => itoa_is e.upto hOk.upto.1 hOk.upto.2 w' (hTr.later h).pow
      have cC := fun (w' : World) (h : Below wr.heap.size wr w') => itoa_is e.tab hOk.tab.1 hOk.tab.2 w' (hTr.later h).pow
      have cD := fun (w' : World) (h : Below wr.heap.size wr w') => itoa_is e.op.req.part hSm.part.1 hSm.part.2 w' (hTr.later h).pow
      have cN := fun (w' : World) (h : Below wr.heap.size wr w') => refName e.op.what w' (hTr.later h).nam
      have cP := fun (w' : World) (h : Below wr.heap.size wr w') => refPrint e.op.req.dest.sec e.op.req.dest.host e.op.req.dest.port e.op.req.path e.op.req.query hSm.port.1 hSm.port.2 w' (hTr.later h).pow hSm.host hSm.path hSm.query
      have cZ := fun (w' : World) (h : Below wr.heap.size wr w') => refAnswer e.rw e.rc e.head (quoteOf e.head) w' (hTr.later h).asc (fun w2 h2 => quote_is e.head hSm.head w2 (hTr.later (h.then (Nat.le_refl _) h2))) (fun w2 h2 => itoa_is e.rc hOk.rc.1 hOk.rc.2 w2 (hTr.later (h.then (Nat.le_refl _) h2)).pow) (quoteOf_size e.head hSm.head) (itoa_small e.rc hOk.rc.1 hOk.rc.2)
      have za := itoa_small e.from_ hOk.from_.1 hOk.from_.2
      have zb := itoa_small e.upto hOk.upto.1 hOk.upto.2
      have zc := itoa_small e.tab hOk.tab.1 hOk.tab.2
      have zd := itoa_small e.op.req.part hSm.part.1 hSm.part.2
      have zn := nameR_size e.op.what
      have zp := printB_size e.op.req.dest.sec e.op.req.dest.host e.op.req.dest.port e.op.req.path e.op.req.query hSm.port.1 hSm.port.2 hSm.host hSm.path hSm.query
      have zz := ansV_size e.rw e.rc e.head (quoteOf e.head) (quoteOf_size e.head hSm.head) (itoa_small e.rc hOk.rc.1 hOk.rc.2)
      have hnx2 := hnx.out
      unfold lineB itB at hnx2
      clear hnx hlz hTr
      generalize (⟨(Lib.itoa e.from_).toArray⟩ : ByteArray) = a at cA za hnx2
      generalize (⟨(Lib.itoa e.upto).toArray⟩ : ByteArray) = b at cB zb hnx2
      generalize (⟨(Lib.itoa e.tab).toArray⟩ : ByteArray) = c at cC zc hnx2
      generalize (⟨(Lib.itoa e.op.req.part).toArray⟩ : ByteArray) = d at cD zd hnx2
      generalize nameR e.op.what = nm at cN zn hnx2
      generalize printB e.op.req.dest.sec e.op.req.dest.host e.op.req.dest.port e.op.req.path e.op.req.query = pr at cP zp hnx2
      generalize ansV e.rw e.rc e.head (quoteOf e.head) = an at cZ zz hnx2
      clear hSm hOk
      have hjz := joinL_size za zb zc zd zn zp zz
      have hlf : (joinL a b c nm d pr an ++ (⟨#[10]⟩ : ByteArray)).size = (joinL a b c nm d pr an).size + 1 := by rw [add_size]; rfl
      have hS2 := Lib.hid (show (S ++ (joinL a b c nm d pr an ++ (⟨#[10]⟩ : ByteArray))).data.toList = linesL (es.take (k + 1)) by rw [hnx2, add_toList, add_toList, hL.out])
      have hz2 := Lib.hid (show (S ++ (joinL a b c nm d pr an ++ (⟨#[10]⟩ : ByteArray))).size ≤ 3100000 * (k + 1) by rw [add_size, hlf]; omega)
      have adX := fun w' => run_string_add_sum (P := Tryd.prog) w' (joinL a b c nm d pr an) (⟨#[10]⟩ : ByteArray) (by rw [show (⟨#[10]⟩ : ByteArray).size = 1 from rfl]; omega)
      have adY := fun w' => run_string_add_sum (P := Tryd.prog) w' S (joinL a b c nm d pr an ++ (⟨#[10]⟩ : ByteArray)) (by rw [hlf]; omega)
      unfold joinL at hS2 hz2 adX adY
      clear hnx2 hL hjz hlf
      have ad0 := fun w' => run_string_add_sum (P := Tryd.prog) w' a ((⟨#[45]⟩ : ByteArray) : ByteArray) (by (try simp only [add_size]); (try rw [ls1]); (try rw [ls2]); (try rw [ls3]); (try rw [ls4]); omega)
      have ad1 := fun w' => run_string_add_sum (P := Tryd.prog) w' (a ++ ((⟨#[45]⟩ : ByteArray) : ByteArray)) b (by (try simp only [add_size]); (try rw [ls1]); (try rw [ls2]); (try rw [ls3]); (try rw [ls4]); omega)
      have ad2 := fun w' => run_string_add_sum (P := Tryd.prog) w' ((a ++ ((⟨#[45]⟩ : ByteArray) : ByteArray)) ++ b) ((⟨#[32, 116, 97, 98, 32]⟩ : ByteArray) : ByteArray) (by (try simp only [add_size]); (try rw [ls1]); (try rw [ls2]); (try rw [ls3]); (try rw [ls4]); omega)
      have ad3 := fun w' => run_string_add_sum (P := Tryd.prog) w' (((a ++ ((⟨#[45]⟩ : ByteArray) : ByteArray)) ++ b) ++ ((⟨#[32, 116, 97, 98, 32]⟩ : ByteArray) : ByteArray)) c (by (try simp only [add_size]); (try rw [ls1]); (try rw [ls2]); (try rw [ls3]); (try rw [ls4]); omega)
      have ad4 := fun w' => run_string_add_sum (P := Tryd.prog) w' ((((a ++ ((⟨#[45]⟩ : ByteArray) : ByteArray)) ++ b) ++ ((⟨#[32, 116, 97, 98, 32]⟩ : ByteArray) : ByteArray)) ++ c) ((⟨#[32]⟩ : ByteArray) : ByteArray) (by (try simp only [add_size]); (try rw [ls1]); (try rw [ls2]); (try rw [ls3]); (try rw [ls4]); omega)
      have ad5 := fun w' => run_string_add_sum (P := Tryd.prog) w' (((((a ++ ((⟨#[45]⟩ : ByteArray) : ByteArray)) ++ b) ++ ((⟨#[32, 116, 97, 98, 32]⟩ : ByteArray) : ByteArray)) ++ c) ++ ((⟨#[32]⟩ : ByteArray) : ByteArray)) nm (by (try simp only [add_size]); (try rw [ls1]); (try rw [ls2]); (try rw [ls3]); (try rw [ls4]); omega)
      have ad6 := fun w' => run_string_add_sum (P := Tryd.prog) w' ((((((a ++ ((⟨#[45]⟩ : ByteArray) : ByteArray)) ++ b) ++ ((⟨#[32, 116, 97, 98, 32]⟩ : ByteArray) : ByteArray)) ++ c) ++ ((⟨#[32]⟩ : ByteArray) : ByteArray)) ++ nm) ((⟨#[32]⟩ : ByteArray) : ByteArray) (by (try simp only [add_size]); (try rw [ls1]); (try rw [ls2]); (try rw [ls3]); (try rw [ls4]); omega)
      have ad7 := fun w' => run_string_add_sum (P := Tryd.prog) w' (((((((a ++ ((⟨#[45]⟩ : ByteArray) : ByteArray)) ++ b) ++ ((⟨#[32, 116, 97, 98, 32]⟩ : ByteArray) : ByteArray)) ++ c) ++ ((⟨#[32]⟩ : ByteArray) : ByteArray)) ++ nm) ++ ((⟨#[32]⟩ : ByteArray) : ByteArray)) d (by (try simp only [add_size]); (try rw [ls1]); (try rw [ls2]); (try rw [ls3]); (try rw [ls4]); omega)
      have ad8 := fun w' => run_string_add_sum (P := Tryd.prog) w' ((((((((a ++ ((⟨#[45]⟩ : ByteArray) : ByteArray)) ++ b) ++ ((⟨#[32, 116, 97, 98, 32]⟩ : ByteArray) : ByteArray)) ++ c) ++ ((⟨#[32]⟩ : ByteArray) : ByteArray)) ++ nm) ++ ((⟨#[32]⟩ : ByteArray) : ByteArray)) ++ d) ((⟨#[32]⟩ : ByteArray) : ByteArray) (by (try simp only [add_size]); (try rw [ls1]); (try rw [ls2]); (try rw [ls3]); (try rw [ls4]); omega)
      have ad9 := fun w' => run_string_add_sum (P := Tryd.prog) w' (((((((((a ++ ((⟨#[45]⟩ : ByteArray) : ByteArray)) ++ b) ++ ((⟨#[32, 116, 97, 98, 32]⟩ : ByteArray) : ByteArray)) ++ c) ++ ((⟨#[32]⟩ : ByteArray) : ByteArray)) ++ nm) ++ ((⟨#[32]⟩ : ByteArray) : ByteArray)) ++ d) ++ ((⟨#[32]⟩ : ByteArray) : ByteArray)) pr (by (try simp only [add_size]); (try rw [ls1]); (try rw [ls2]); (try rw [ls3]); (try rw [ls4]); omega)
      have ad10 := fun w' => run_string_add_sum (P := Tryd.prog) w' ((((((((((a ++ ((⟨#[45]⟩ : ByteArray) : ByteArray)) ++ b) ++ ((⟨#[32, 116, 97, 98, 32]⟩ : ByteArray) : ByteArray)) ++ c) ++ ((⟨#[32]⟩ : ByteArray) : ByteArray)) ++ nm) ++ ((⟨#[32]⟩ : ByteArray) : ByteArray)) ++ d) ++ ((⟨#[32]⟩ : ByteArray) : ByteArray)) ++ pr) ((⟨#[58, 32]⟩ : ByteArray) : ByteArray) (by (try simp only [add_size]); (try rw [ls1]); (try rw [ls2]); (try rw [ls3]); (try rw [ls4]); omega)
      have ad11 := fun w' => run_string_add_sum (P := Tryd.prog) w' (((((((((((a ++ ((⟨#[45]⟩ : ByteArray) : ByteArray)) ++ b) ++ ((⟨#[32, 116, 97, 98, 32]⟩ : ByteArray) : ByteArray)) ++ c) ++ ((⟨#[32]⟩ : ByteArray) : ByteArray)) ++ nm) ++ ((⟨#[32]⟩ : ByteArray) : ByteArray)) ++ d) ++ ((⟨#[32]⟩ : ByteArray) : ByteArray)) ++ pr) ++ ((⟨#[58, 32]⟩ : ByteArray) : ByteArray)) an (by (try simp only [add_size]); (try rw [ls1]); (try rw [ls2]); (try rw [ls3]); (try rw [ls4]); omega)
      have hrg : wr.rangeAt bb (off + k * 28) e.arr.toList := fun j v hv => hc j v hv
      have hone := ev_one e
      go_upto_region 5 with (first
        | (refine wpList_load_mid rfl tEvR _ rfl bb (off + k * 28) rfl e.arr.toList _ hrg Tryd.underlying64 rfl infoEvR ?_)
        | (refine wpList_store_blk rfl tEvR _ _ rfl _ rfl (Blk.new wr zEv tEvR) e.arr rfl rfl infoEvR hone ?_; intro wz hz hg))
      have hup : ∀ w', Below wz.heap.size wz w' → Below wr.heap.size wr w' := fun w' h => by
        have h1 := below_only ((Below.refl wr.heap.size wr).alloc (Nat.le_refl _) (.cells zEv tEvR)) hg (by simp) (Nat.le_refl _)
        exact h1.then (Nat.le_refl _) h
      have hE := fun w' (h : Below wz.heap.size wz w') => (⟨h, evCells (p := wr.heap.size) (hz.later h)⟩ : Below wz.heap.size wz w' ∧ (w'.cell? ⟨wr.heap.size, 0, none⟩ = some (.int .i64 e.tab) ∧ w'.cell? ⟨wr.heap.size, 1, none⟩ = some (.int .i64 e.op.what) ∧ w'.cell? ⟨wr.heap.size, 2, none⟩ = some (.int .i64 e.op.req.part) ∧ w'.cell? ⟨wr.heap.size, 6, none⟩ = some (.bool e.op.req.dest.sec) ∧ w'.cell? ⟨wr.heap.size, 7, none⟩ = some (.string e.op.req.dest.host) ∧ w'.cell? ⟨wr.heap.size, 8, none⟩ = some (.int .i64 e.op.req.dest.port) ∧ w'.cell? ⟨wr.heap.size, 9, none⟩ = some (.string e.op.req.path) ∧ w'.cell? ⟨wr.heap.size, 10, none⟩ = some (.string e.op.req.query) ∧ w'.cell? ⟨wr.heap.size, 23, none⟩ = some (.int .i64 e.rw) ∧ w'.cell? ⟨wr.heap.size, 24, none⟩ = some (.string e.head) ∧ w'.cell? ⟨wr.heap.size, 25, none⟩ = some (.int .i64 e.rc) ∧ w'.cell? ⟨wr.heap.size, 26, none⟩ = some (.int .i64 e.from_) ∧ w'.cell? ⟨wr.heap.size, 27, none⟩ = some (.int .i64 e.upto)))
      clear hc hrg hone hz hg hR hO hS hT
      go_region_held3 (fun w' => Below wz.heap.size wz w' ∧ (w'.cell? ⟨wr.heap.size, 0, none⟩ = some (.int .i64 e.tab) ∧ w'.cell? ⟨wr.heap.size, 1, none⟩ = some (.int .i64 e.op.what) ∧ w'.cell? ⟨wr.heap.size, 2, none⟩ = some (.int .i64 e.op.req.part) ∧ w'.cell? ⟨wr.heap.size, 6, none⟩ = some (.bool e.op.req.dest.sec) ∧ w'.cell? ⟨wr.heap.size, 7, none⟩ = some (.string e.op.req.dest.host) ∧ w'.cell? ⟨wr.heap.size, 8, none⟩ = some (.int .i64 e.op.req.dest.port) ∧ w'.cell? ⟨wr.heap.size, 9, none⟩ = some (.string e.op.req.path) ∧ w'.cell? ⟨wr.heap.size, 10, none⟩ = some (.string e.op.req.query) ∧ w'.cell? ⟨wr.heap.size, 23, none⟩ = some (.int .i64 e.rw) ∧ w'.cell? ⟨wr.heap.size, 24, none⟩ = some (.string e.head) ∧ w'.cell? ⟨wr.heap.size, 25, none⟩ = some (.int .i64 e.rc) ∧ w'.cell? ⟨wr.heap.size, 26, none⟩ = some (.int .i64 e.from_) ∧ w'.cell? ⟨wr.heap.size, 27, none⟩ = some (.int .i64 e.upto)))
        (first | (exact hE _ (Below.refl _ _).drew) | (go_split_ands; exact hE _ ((by assumption : Below wz.heap.size wz _).then (Nat.le_refl _) (by assumption))) | (go_split_ands; exact hE _ (by assumption)))
        (first
          | (go_at_call 69; go_split_ands; refine (cA _ (hup _ (by assumption))).mono ?_; rintro x w2 ⟨rfl, hB2⟩; clear cA)
          | (go_at_call 69; go_split_ands; refine (cB _ (hup _ (by assumption))).mono ?_; rintro x w2 ⟨rfl, hB2⟩; clear cB)
          | (go_at_call 69; go_split_ands; refine (cC _ (hup _ (by assumption))).mono ?_; rintro x w2 ⟨rfl, hB2⟩; clear cC)
          | (go_at_call 73; go_split_ands; refine (cN _ (hup _ (by assumption))).mono ?_; rintro x w2 ⟨rfl, rfl⟩)
          | (go_at_call 69; go_split_ands; refine (cD _ (hup _ (by assumption))).mono ?_; rintro x w2 ⟨rfl, hB2⟩; clear cD)
          | (go_at_call 74; go_split_ands; refine (cP _ (hup _ (by assumption))).mono ?_; rintro x w2 ⟨rfl, hB2⟩)
          | (go_at_call 75; go_split_ands; refine (cZ _ (hup _ (by assumption))).mono ?_; rintro x w2 ⟨rfl, hB2⟩)
          | fail)
      all_goals
        go_split_ands
        have hBn := Lib.hid (hB.out.then (Nat.le_refl _) (hup _ (by assumption)))
        go_wp2
        go_roundw
        case rel => exact ⟨k + 1, _, by omega, rfl, by go_num, hz2.out, hS2, hBn⟩
        case measure => simp [intOf]; omega
    · obtain rfl : k = es.length := by omega
      have hfin := Lib.hid (show S.data.toList = linesL es by rw [hL.out, List.take_length])
      go_wp2
      go_ret
      exact ⟨ret_str (ba_eq hfin.out), hB.out⟩
end Go.Proofs.YtdlhihfjigcimaaDoor
