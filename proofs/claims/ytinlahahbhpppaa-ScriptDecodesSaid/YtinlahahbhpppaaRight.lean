/- The reference's OriginRight: whether an origin may be one. -/
import Derived.Test.YtinlahahbhpppaaFoun2
import Derived.Test.YtinlahahbhpppaaOrigin
import Derived.Test.YtinlahahbhpppaaFound
namespace Go.Proofs.Ytinlahahbhpppaa
open Go.RowKit

def lowDig (c : UInt8) : Bool := (decide ((97 : Int) ≤ (c.toNat : Int)) && decide ((c.toNat : Int) ≤ 122)) || (decide ((48 : Int) ≤ (c.toNat : Int)) && decide ((c.toNat : Int) ≤ 57))
def hbad (was c : UInt8) : Bool := (c == 46 && (was == 46 || was == 45)) || (c == 45 && was == 46) || (c != 46 && c != 45 && !lowDig c)
/-- the bytes behind one, a point behind them all -/
def hostGo (was : UInt8) : List UInt8 → Bool
  | [] => true
  | c :: r => !hbad was c && hostGo c r
/-- a host that may be one -/
def hostOk (l : List UInt8) : Bool := decide (l.length ≤ 60) && hostGo 46 (l ++ [46])
def portOk (n : Int) : Bool := decide (1 ≤ n) && decide (n ≤ 65535)
theorem u8eq (c d : UInt8) (n : Int) (h : (d.toNat : Int) = n) : ((c.toNat : Int) == n) = (c == d) := by
  subst h
  cases h : (c == d)
  · simp only [beq_eq_false_iff_ne, ne_eq] at h ⊢
    intro e
    exact h (UInt8.toNat_inj.1 (by omega))
  · simp only [beq_iff_eq] at h ⊢
    rw [h]
theorem within_low (c : UInt8) (lo hi : Int) (b : Bool) (h : (decide (lo ≤ (c.toNat : Int)) && decide ((c.toNat : Int) ≤ hi)) = b) (w : World) :
    Calls Try.prog 17 #[.int .i64 c.toNat, .int .i64 lo, .int .i64 hi] w fun e w' => e = .returned (.bool b) ∧ w = w' := by
  subst h; exact within_any _ lo hi w

set_option maxRecDepth 100000 in
set_option maxHeartbeats 1600000 in
theorem refOriginRight (sec : Bool) (host : ByteArray) (port : Int) (hh : host.size ≤ 1099511627776) (w : World) :
    Calls Try.prog 18 #[.agg #[.bool sec, .string host, .int .i64 port]] w fun e w' => e = .returned (.bool (hostOk host.data.toList && portOk port)) ∧ Below w.heap.size w w' := by
  have hB := (Below.refl w.heap.size w).alloc (Nat.le_refl _) (Obj.cells #[.bool sec, .string host, .int .i64 port] 27)
  obtain ⟨hBB, hc0, hc1, hc2⟩ := mkO (sec := sec) (host := host) (port := port) _ (Below.refl (w.heap.size + 1) (w.alloc (Obj.cells #[.bool sec, .string host, .int .i64 port] 27)))
  go_enter Try.func18, Try.ntmps18
  have hlen : Hid (host.data.toList.length = host.size) := Lib.hid (sz_len host).symm
  by_cases hl : host.size ≤ 60
  · by_cases hp : 1 ≤ port ∧ port ≤ 65535
    · obtain ⟨hp1, hp2⟩ := hp
      have hpo : Hid (portOk port = true) := Lib.hid (by simp [portOk, hp1, hp2])
      have hlo : Hid (hostOk host.data.toList = hostGo 46 (host.data.toList ++ [46])) := Lib.hid (by unfold hostOk; rw [hlen.out]; simp [hl])
      go_wp2_with (go_at_call 17; refine (within_any _ _ _ _).mono ?_; rintro e w' ⟨rfl, rfl⟩)
      go_loopw [3, 4] (fun was i wr => ∃ (k : Nat) (wa : UInt8), k ≤ host.size + 1 ∧ i = .int .i64 k ∧ was = .int .u8 wa.toNat ∧ Hid (hostGo 46 (host.data.toList ++ [46]) = hostGo wa ((host.data.toList ++ [46]).drop k)) ∧ Below (w.heap.size + 1) (w.alloc (Obj.cells #[.bool sec, .string host, .int .i64 port] 27)) wr) (fun _ i _ => host.size + 1 - (intOf i).toNat)
      case atStart => exact ⟨0, 46, by omega, rfl, rfl, Lib.hid rfl, hBB⟩
      case round =>
        obtain ⟨k, wa, hk, rfl, rfl, hgo, hB1⟩ := hrel
        obtain ⟨_, hd0, hd1, hd2⟩ := mkO (sec := sec) (host := host) (port := port) _ hB1
        by_cases hlt : k < host.size
        · have hkl : k < host.data.toList.length := by rw [hlen.out]; exact hlt
          have hdr : Hid ((host.data.toList ++ [46]).drop k = host[k] :: (host.data.toList ++ [46]).drop (k + 1)) := Lib.hid (by
            rw [List.drop_eq_getElem_cons (by simp; omega), List.getElem_append_left hkl, at_list host k hlt hkl])
          have e46 := u8eq host[k] 46 46 rfl
          have e45 := u8eq host[k] 45 45 rfl
          have f46 := u8eq wa 46 46 rfl
          have f45 := u8eq wa 45 45 rfl
          have hc256 : (host[k].toNat : Int) < 256 := by have := host[k].toNat_lt; omega
          have hstep : ∀ b, hbad wa host[k] = b → Hid (hostGo 46 (host.data.toList ++ [46]) = (!b && hostGo host[k] ((host.data.toList ++ [46]).drop (k + 1)))) := fun b hb => Lib.hid (by rw [hgo.out, hdr.out, hostGo, hb])
          obtain ⟨a, ha⟩ : ∃ a, (decide ((97 : Int) ≤ (host[k].toNat : Int)) && decide ((host[k].toNat : Int) ≤ 122)) = a := ⟨_, rfl⟩
          obtain ⟨d, hd⟩ : ∃ d, (decide ((48 : Int) ≤ (host[k].toNat : Int)) && decide ((host[k].toNat : Int) ≤ 57)) = d := ⟨_, rfl⟩
          have hld : lowDig host[k] = (a || d) := by unfold lowDig; rw [ha, hd]
          have hwa := within_low host[k] 97 122 a ha
          have hwd := within_low host[k] 48 57 d hd
          clear hgo hdr
          by_cases c46 : host[k] = 46
          · have a0 : a = false := by rw [← ha, c46]; rfl
            have d0 : d = false := by rw [← hd, c46]; rfl
            rw [show (host[k] == 46) = true by rw [c46]; rfl] at e46
            rw [show (host[k] == 45) = false by rw [c46]; rfl] at e45
            have hcv : Hid ((host[k].toNat : Int) = 46) := Lib.hid (by rw [c46]; rfl)
            subst a0; subst d0
            by_cases w46 : wa = 46
            · have hz := hstep true (by rw [c46, w46]; rfl)
              rw [show (wa == 46) = true by rw [w46]; rfl] at f46
              rw [show (wa == 45) = false by rw [w46]; rfl] at f45
              clear c46 w46 hstep hld ha hd
              go_wp2_with (first | (go_at_call 17; refine (hwa _).mono ?_; clear hwa; rintro e w' ⟨rfl, rfl⟩) | (go_at_call 17; refine (hwd _).mono ?_; rintro e w' ⟨rfl, rfl⟩))
              all_goals (try (exfalso; have := hcv.out; omega))
              go_ret
              exact ⟨by rw [hlo.out, hz.out]; rfl, below_box hB1⟩
            · by_cases w45 : wa = 45
              · have hz := hstep true (by rw [c46, w45]; rfl)
                rw [show (wa == 46) = false by rw [w45]; rfl] at f46
                rw [show (wa == 45) = true by rw [w45]; rfl] at f45
                clear c46 w45 w46 hstep hld ha hd
                go_wp2_with (first | (go_at_call 17; refine (hwa _).mono ?_; clear hwa; rintro e w' ⟨rfl, rfl⟩) | (go_at_call 17; refine (hwd _).mono ?_; rintro e w' ⟨rfl, rfl⟩))
                all_goals (try (exfalso; have := hcv.out; omega))
                go_ret
                exact ⟨by rw [hlo.out, hz.out]; rfl, below_box hB1⟩
              · rw [show (wa == 46) = false by simpa using w46] at f46
                rw [show (wa == 45) = false by simpa using w45] at f45
                have hv := Lib.hid c46
                have hz := hstep false (by unfold hbad; rw [c46, show (wa == 46) = false by simpa using w46, show (wa == 45) = false by simpa using w45]; rfl)
                clear c46 w45 w46 hstep hld ha hd
                go_wp2_with (first | (go_at_call 17; refine (hwa _).mono ?_; clear hwa; rintro e w' ⟨rfl, rfl⟩) | (go_at_call 17; refine (hwd _).mono ?_; rintro e w' ⟨rfl, rfl⟩))
                all_goals (try (exfalso; have := hcv.out; omega))
                go_roundw
                case rel => exact ⟨k + 1, 46, by omega, by go_num, rfl, Lib.hid (by rw [hz.out, hv.out]; rfl), hB1⟩
                case measure => simp [intOf]; omega
          · by_cases c45 : host[k] = 45
            · have a0 : a = false := by rw [← ha, c45]; rfl
              have d0 : d = false := by rw [← hd, c45]; rfl
              rw [show (host[k] == 46) = false by rw [c45]; rfl] at e46
              rw [show (host[k] == 45) = true by rw [c45]; rfl] at e45
              have hcv : Hid ((host[k].toNat : Int) = 45) := Lib.hid (by rw [c45]; rfl)
              subst a0; subst d0
              by_cases w46 : wa = 46
              · have hz := hstep true (by rw [c45, w46]; rfl)
                rw [show (wa == 46) = true by rw [w46]; rfl] at f46
                clear f45 c46 c45 w46 hstep hld ha hd
                go_wp2_with (first | (go_at_call 17; refine (hwa _).mono ?_; clear hwa; rintro e w' ⟨rfl, rfl⟩) | (go_at_call 17; refine (hwd _).mono ?_; rintro e w' ⟨rfl, rfl⟩))
                all_goals (try (exfalso; have := hcv.out; omega))
                go_ret
                exact ⟨by rw [hlo.out, hz.out]; rfl, below_box hB1⟩
              · rw [show (wa == 46) = false by simpa using w46] at f46
                have hv := Lib.hid c45
                have hz := hstep false (by unfold hbad; rw [c45, show (wa == 46) = false by simpa using w46]; cases (wa == 45) <;> rfl)
                clear f45 c46 c45 w46 hstep hld ha hd
                go_wp2_with (first | (go_at_call 17; refine (hwa _).mono ?_; clear hwa; rintro e w' ⟨rfl, rfl⟩) | (go_at_call 17; refine (hwd _).mono ?_; rintro e w' ⟨rfl, rfl⟩))
                all_goals (try (exfalso; have := hcv.out; omega))
                go_roundw
                case rel => exact ⟨k + 1, 45, by omega, by go_num, rfl, Lib.hid (by rw [hz.out, hv.out]; rfl), hB1⟩
                case measure => simp [intOf]; omega
            · have hcv : Hid ((host[k].toNat : Int) ≠ 46 ∧ (host[k].toNat : Int) ≠ 45) := Lib.hid ⟨fun e => c46 (UInt8.toNat_inj.1 (by simpa using Int.ofNat.inj e)), fun e => c45 (UInt8.toNat_inj.1 (by simpa using Int.ofNat.inj e))⟩
              have x46 : (host[k] == 46) = false := by simpa using c46
              have x45 : (host[k] == 45) = false := by simpa using c45
              have hb : hbad wa host[k] = !(a || d) := by unfold hbad; rw [hld, x46, x45]; cases a <;> cases d <;> simp [bne, x46, x45]
              rw [x46] at e46
              rw [x45] at e45
              have hz := hstep _ hb
              have n46 : ((host[k].toNat : Int) != 46) = true := by simp [bne, e46]
              have n45 : ((host[k].toNat : Int) != 45) = true := by simp [bne, e45]
              clear f45 f46 c46 c45 x46 x45 hstep hld ha hd hb
              cases a
              · cases d
                · go_wp2_with (first | (go_at_call 17; refine (hwa _).mono ?_; clear hwa; rintro e w' ⟨rfl, rfl⟩) | (go_at_call 17; refine (hwd _).mono ?_; rintro e w' ⟨rfl, rfl⟩))
                  all_goals (try (exfalso; have := hcv.out; omega))
                  go_ret
                  exact ⟨by rw [hlo.out, hz.out]; rfl, below_box hB1⟩
                · go_wp2_with (first | (go_at_call 17; refine (hwa _).mono ?_; clear hwa; rintro e w' ⟨rfl, rfl⟩) | (go_at_call 17; refine (hwd _).mono ?_; rintro e w' ⟨rfl, rfl⟩))
                  all_goals (try (exfalso; have := hcv.out; omega))
                  go_roundw
                  case rel => exact ⟨k + 1, host[k], by omega, by go_num, rfl, Lib.hid (by rw [hz.out]; rfl), hB1⟩
                  case measure => simp [intOf]; omega
              · go_wp2_with (first | (go_at_call 17; refine (hwa _).mono ?_; clear hwa; rintro e w' ⟨rfl, rfl⟩) | (go_at_call 17; refine (hwd _).mono ?_; rintro e w' ⟨rfl, rfl⟩))
                all_goals (try (exfalso; have := hcv.out; omega))
                go_roundw
                case rel => exact ⟨k + 1, host[k], by omega, by go_num, rfl, Lib.hid (by rw [hz.out]; rfl), hB1⟩
                case measure => simp [intOf]; omega
        · by_cases heq : k = host.size
          · subst heq
            have hdr : Hid ((host.data.toList ++ [46]).drop host.size = [46]) := Lib.hid (by rw [List.drop_append_of_le_length (by rw [hlen.out]; exact Nat.le_refl _), ← hlen.out, List.drop_length]; rfl)
            have f46 := u8eq wa 46 46 rfl
            have f45 := u8eq wa 45 45 rfl
            by_cases w46 : wa = 46
            · have hz : Hid (hostGo 46 (host.data.toList ++ [46]) = false) := Lib.hid (by rw [hgo.out, hdr.out, w46]; rfl)
              rw [show (wa == 46) = true by rw [w46]; rfl] at f46
              clear f45 w46
              go_wp2_with (go_at_call 17; refine (within_any _ _ _ _).mono ?_; rintro e w' ⟨rfl, rfl⟩)
              go_ret
              exact ⟨by rw [hlo.out, hz.out]; rfl, below_box hB1⟩
            · by_cases w45 : wa = 45
              · have hz : Hid (hostGo 46 (host.data.toList ++ [46]) = false) := Lib.hid (by rw [hgo.out, hdr.out, w45]; rfl)
                rw [show (wa == 46) = false by rw [w45]; rfl] at f46
                rw [show (wa == 45) = true by rw [w45]; rfl] at f45
                clear w45 w46
                go_wp2_with (go_at_call 17; refine (within_any _ _ _ _).mono ?_; rintro e w' ⟨rfl, rfl⟩)
                go_ret
                exact ⟨by rw [hlo.out, hz.out]; rfl, below_box hB1⟩
              · rw [show (wa == 46) = false by simpa using w46] at f46
                rw [show (wa == 45) = false by simpa using w45] at f45
                have hz : Hid (hostGo 46 (host.data.toList ++ [46]) = true) := Lib.hid (by rw [hgo.out, hdr.out]; simp only [hostGo, hbad]; rw [show (wa == 46) = false by simpa using w46, show (wa == 45) = false by simpa using w45]; rfl)
                clear w45 w46
                go_wp2_with (go_at_call 17; refine (within_any _ _ _ _).mono ?_; rintro e w' ⟨rfl, rfl⟩)
                go_roundw
                case rel => exact ⟨host.size + 1, 46, by omega, by go_num, rfl, Lib.hid (by rw [hz.out, List.drop_of_length_le (by simp)]; rfl), hB1⟩
                case measure => simp [intOf]
          · obtain rfl : k = host.size + 1 := by omega
            have hz : Hid (hostGo 46 (host.data.toList ++ [46]) = true) := Lib.hid (by rw [hgo.out, List.drop_of_length_le (by simp)]; rfl)
            go_wp2
            go_ret
            exact ⟨by rw [hlo.out, hz.out, hpo.out]; rfl, below_box hB1⟩
    · have hpo : Hid (portOk port = false) := Lib.hid (by simp [portOk]; omega)
      have hpf : (decide ((1 : Int) ≤ port) && decide (port ≤ 65535)) = false := by simp; omega
      clear hp
      go_wp2_with (go_at_call 17; refine (within_any _ _ _ _).mono ?_; rintro e w' ⟨rfl, rfl⟩)
      go_ret
      exact ⟨by rw [hpo.out, Bool.and_false]; rfl, below_box hBB⟩
  · have hlo : Hid (hostOk host.data.toList = false) := Lib.hid (by unfold hostOk; rw [hlen.out]; simp [hl])
    go_wp2
    go_ret
    exact ⟨by rw [hlo.out]; rfl, below_box hBB⟩
end Go.Proofs.Ytinlahahbhpppaa
