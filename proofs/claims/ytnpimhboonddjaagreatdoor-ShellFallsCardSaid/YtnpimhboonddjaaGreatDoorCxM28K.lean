/-
  What the shell answers to the two scripts; the law, whatever bytes are handed in. Conditions: none.
-/
import Derived.Test.YtnpimhboonddjaaGreatDoorCxM28RS0
import Derived.Test.YtnpimhboonddjaaGreatDoorCxM28RS1
import Derived.Test.YtnpimhboonddjaaGreatDoorCxM28RS2
import Derived.Test.YtnpimhboonddjaaGreatDoorCxM28RS3
import Derived.Test.YtnpimhboonddjaaGreatDoorCxM28RS4
import Derived.Test.YtnpimhboonddjaaGreatDoorCxM28RS5
import Derived.Test.YtnpimhboonddjaaGreatDoorCxM28RS6
import Derived.Test.YtnpimhboonddjaaGreatDoorCxM28RT0
import Derived.Test.YtnpimhboonddjaaGreatDoorCxM28RT1
import Derived.Test.YtnpimhboonddjaaGreatDoorCxM28RT2
import Derived.Test.YtnpimhboonddjaaGreatDoorCxM28RT3
import Derived.Test.YtnpimhboonddjaaGreatDoorCxM28RT4
import Derived.Test.YtnpimhboonddjaaGreatDoorCxM28RT5
import Derived.Test.YtnpimhboonddjaaGreatDoorCxM28RT6
import Derived.Test.YtnpimhboonddjaaGreatDoorCxM28RT7
import Derived.Test.YtnpimhboonddjaaGreatDoorCxM28H0
import Derived.Test.YtnpimhboonddjaaGreatDoorCxM28H1
import Derived.Test.YtnpimhboonddjaaGreatDoorCxM28H2
import Derived.Test.YtnpimhboonddjaaGreatDoorC7
namespace Go.AM
open Go Go.Proofs
set_option maxHeartbeats 0
set_option maxRecDepth 1000000
theorem toldT {bh bl : AV} {p : Nat} {a b c d : Option Bool} {o : List Nat} (e : gT bh bl p a b c d o = true) : Told Tryz.prog 6 (tT bh bl p a b c d) o :=
  toldN sftb5 sfmo (by kernel_rfl) (by kernel_rfl) (by kernel_rfl) ((forceL_eq _ _).symm.trans e)
theorem sS_ok {bh bl ch cl o : AV} {kss : List (List Nat)} (ho : plainA o = true) (e : gS bh bl ch cl o kss = true) : SpOk Tryz.prog 6 (sS bh bl ch cl o) :=
  sp_fixQ sftb6 sfmo rfl (by show (@Bool.rec (fun _ => Bool) false true (plainA o)) = true; rw [ho]) ((forceL_eq _ _).symm.trans e)
theorem sfsp8 : FOk Tryz.prog (8, .sp spTrue) := by
  have h : (trF Tryz.prog 8).isSome = true := by kernel_rfl
  obtain ⟨u, hu⟩ := Option.isSome_iff_exists.1 h
  refine fOk_sp (by decide) hu (spTrue_ok fun w hg => ?_)
  exact go_true (P := Tryz.prog) sftb6 sfmo (vs := []) (X := fun _ => .bool false) (fun _ => rfl) trivial sfawake w hg
theorem lwtb {c : SpF} (h : SpOk Tryz.prog 6 c) : TbOk (lwT c) Tryz.prog := by
  have h6 : (trF Tryz.prog 6).isSome = true := by kernel_rfl
  obtain ⟨u, hu⟩ := Option.isSome_iff_exists.1 h6
  exact tbOk ⟨sfok3, sfok4, sfok5, fOk_sp (by decide) hu h, sfok7, sfsp8, trivial⟩ trivial
theorem law_at {x y : AV} {s t : SpF} (e : lwG x y s t = true) (hs : SpOk Tryz.prog 6 s) (ht : SpOk Tryz.prog 6 t) {b c p q j : Nat} (hj : j < 4096) (hp : p < 256) (hq : q < 256)
    (hx : ∀ θ : Th, θ.lane = j → Ok θ x ∧ toV θ x = .int .u8 (b : Int)) (hy : ∀ θ : Th, θ.lane = j → Ok θ y ∧ toV θ y = .int .u8 (c : Int)) (W : World) (hg : GloW Tryz.prog W) :
    Calls Tryz.prog 3 #[.int .u8 b, .int .u8 c, .int .u8 p, .int .u8 q] W fun r w' => r = .returned (.bool true) ∧ w'.os = W.os ∧ w'.tape = W.tape ∧ w'.output = W.output ∧ W.heap.size ≤ w'.heap.size ∧ ∀ b, b < W.heap.size → w'.heap[b]? = W.heap[b]? := by
  have hX := XB_one (c := j) (u := [.bool false, .bool false, .int .u8 p, .int .u8 q]) (by intro v hv; simp only [List.mem_cons, List.not_mem_nil, or_false] at hv; rcases hv with rfl | rfl | rfl | rfl <;> rfl)
  have hl := lane_XB hX hj
  obtain ⟨x1, x2⟩ := hx _ hl
  obtain ⟨y1, y2⟩ := hy _ hl
  have := go_true (lwtb (spOr_ok hs ht)) sfmo (vs := [x, y, .xi 2 4 0 1, .xi 3 4 0 1]) hX ⟨x1, y1, xi_ok (by decide) p rfl (Nat.mod_one p) (by omega), xi_ok (by decide) q rfl (Nat.mod_one q) (by omega), trivial⟩ e W hg
  simp only [toVs, x2, y2] at this
  exact this
theorem tb1 {s m : Nat} (h1 : 1 ≤ s) (hm : 0 < m) (hs : s + m ≤ 256) : SpOk Tryz.prog 6 (sT (hiB s m) (loB s m) 1 oT1) := turn_ok (by decide) (hi_ok (by decide) (by decide)) lo_ok' (dig_b h1 hm hs) (fun _ _ _ _ => ⟨none, none, none, none, fit_n _, fit_n _, fit_n _, fit_n _, toldT rtb_1_0⟩)
theorem tb2 {s m : Nat} (h1 : 1 ≤ s) (hm : 0 < m) (hs : s + m ≤ 256) : SpOk Tryz.prog 6 (sT (hiB s m) (loB s m) 2 oT) := turn_ok (by decide) (hi_ok (by decide) (by decide)) lo_ok' (dig_b h1 hm hs) (fun _ _ _ _ => ⟨none, none, none, none, fit_n _, fit_n _, fit_n _, fit_n _, toldT rtb_2_0⟩)
theorem tb3 {s m : Nat} (h1 : 1 ≤ s) (hm : 0 < m) (hs : s + m ≤ 256) : SpOk Tryz.prog 6 (sT (hiB s m) (loB s m) 3 oT) := turn_ok (by decide) (hi_ok (by decide) (by decide)) lo_ok' (dig_b h1 hm hs) (fun _ _ _ _ => ⟨none, none, none, none, fit_n _, fit_n _, fit_n _, fit_n _, toldT rtb_3_0⟩)
theorem tb4 {s m : Nat} (h1 : 1 ≤ s) (hm : 0 < m) (hs : s + m ≤ 256) : SpOk Tryz.prog 6 (sT (hiB s m) (loB s m) 4 oT) := turn_ok (by decide) (hi_ok (by decide) (by decide)) lo_ok' (dig_b h1 hm hs) (fun _ _ _ _ => ⟨none, none, none, none, fit_n _, fit_n _, fit_n _, fit_n _, toldT rtb_4_0⟩)
theorem tb5 {s m : Nat} (h1 : 1 ≤ s) (hm : 0 < m) (hs : s + m ≤ 256) : SpOk Tryz.prog 6 (sT (hiB s m) (loB s m) 5 oT) := turn_ok (by decide) (hi_ok (by decide) (by decide)) lo_ok' (dig_b h1 hm hs) (fun _ _ _ _ => ⟨none, none, none, none, fit_n _, fit_n _, fit_n _, fit_n _, toldT rtb_5_0⟩)
theorem tb6 {s m : Nat} (h1 : 1 ≤ s) (hm : 0 < m) (hs : s + m ≤ 256) : SpOk Tryz.prog 6 (sT (hiB s m) (loB s m) 6 oT) := turn_ok (by decide) (hi_ok (by decide) (by decide)) lo_ok' (dig_b h1 hm hs) (fun a _ _ _ => match a with | true => ⟨some true, none, none, none, fit_s _, fit_n _, fit_n _, fit_n _, toldT rtb_6_1⟩ | false => ⟨some false, none, none, none, fit_s _, fit_n _, fit_n _, fit_n _, toldT rtb_6_0⟩)
theorem tb7 {s m : Nat} (h1 : 1 ≤ s) (hm : 0 < m) (hs : s + m ≤ 256) : SpOk Tryz.prog 6 (sT (hiB s m) (loB s m) 7 oT) := turn_ok (by decide) (hi_ok (by decide) (by decide)) lo_ok' (dig_b h1 hm hs) (fun a b _ _ => match b with | true => ⟨none, some true, none, none, fit_n _, fit_s _, fit_n _, fit_n _, toldT rtb_7_2⟩ | false => match a with | true => ⟨some true, some false, none, none, fit_s _, fit_s _, fit_n _, fit_n _, toldT rtb_7_1⟩ | false => ⟨some false, some false, none, none, fit_s _, fit_s _, fit_n _, fit_n _, toldT rtb_7_0⟩)
theorem tb8 {s m : Nat} (h1 : 1 ≤ s) (hm : 0 < m) (hs : s + m ≤ 256) : SpOk Tryz.prog 6 (sT (hiB s m) (loB s m) 8 oT) := turn_ok (by decide) (hi_ok (by decide) (by decide)) lo_ok' (dig_b h1 hm hs) (fun a b c _ => match c with | true => ⟨none, none, some true, none, fit_n _, fit_n _, fit_s _, fit_n _, toldT rtb_8_3⟩ | false => match b with | true => ⟨none, some true, some false, none, fit_n _, fit_s _, fit_s _, fit_n _, toldT rtb_8_2⟩ | false => match a with | true => ⟨some true, some false, some false, none, fit_s _, fit_s _, fit_s _, fit_n _, toldT rtb_8_1⟩ | false => ⟨some false, some false, some false, none, fit_s _, fit_s _, fit_s _, fit_n _, toldT rtb_8_0⟩)
theorem tb9 {s m : Nat} (h1 : 1 ≤ s) (hm : 0 < m) (hs : s + m ≤ 256) : SpOk Tryz.prog 6 (sT (hiB s m) (loB s m) 9 oT) := turn_ok (by decide) (hi_ok (by decide) (by decide)) lo_ok' (dig_b h1 hm hs) (fun a b c d => match d with | true => ⟨none, none, none, some true, fit_n _, fit_n _, fit_n _, fit_s _, toldT rtb_9_4⟩ | false => match c with | true => ⟨none, none, some true, some false, fit_n _, fit_n _, fit_s _, fit_s _, toldT rtb_9_3⟩ | false => match b with | true => ⟨none, some true, some false, some false, fit_n _, fit_s _, fit_s _, fit_s _, toldT rtb_9_2⟩ | false => match a with | true => ⟨some true, some false, some false, some false, fit_s _, fit_s _, fit_s _, fit_s _, toldT rtb_9_1⟩ | false => ⟨some false, some false, some false, some false, fit_s _, fit_s _, fit_s _, fit_s _, toldT rtb_9_0⟩)
theorem tbs {s m : Nat} (h1 : 1 ≤ s) (hm : 0 < m) (hs : s + m ≤ 256) : SpOk Tryz.prog 6 (sTs (hiB s m) (loB s m) oT1) := spOr_ok (tb1 h1 hm hs) (spOr_ok (tb2 h1 hm hs) (spOr_ok (tb3 h1 hm hs) (spOr_ok (tb4 h1 hm hs) (spOr_ok (tb5 h1 hm hs) (spOr_ok (tb6 h1 hm hs) (spOr_ok (tb7 h1 hm hs) (spOr_ok (tb8 h1 hm hs) (tb9 h1 hm hs))))))))
theorem tz1 : SpOk Tryz.prog 6 (sT dg0 dg0 1 oT) := turn_ok (by decide) dg0_ok dg0_ok dig_z (fun _ _ _ _ => ⟨none, none, none, none, fit_n _, fit_n _, fit_n _, fit_n _, toldT rtz_1_0⟩)
theorem tz2 : SpOk Tryz.prog 6 (sT dg0 dg0 2 oT) := turn_ok (by decide) dg0_ok dg0_ok dig_z (fun _ _ _ _ => ⟨none, none, none, none, fit_n _, fit_n _, fit_n _, fit_n _, toldT rtz_2_0⟩)
theorem tz3 : SpOk Tryz.prog 6 (sT dg0 dg0 3 oT) := turn_ok (by decide) dg0_ok dg0_ok dig_z (fun _ _ _ _ => ⟨none, none, none, none, fit_n _, fit_n _, fit_n _, fit_n _, toldT rtz_3_0⟩)
theorem tz4 : SpOk Tryz.prog 6 (sT dg0 dg0 4 oT) := turn_ok (by decide) dg0_ok dg0_ok dig_z (fun _ _ _ _ => ⟨none, none, none, none, fit_n _, fit_n _, fit_n _, fit_n _, toldT rtz_4_0⟩)
theorem tz5 : SpOk Tryz.prog 6 (sT dg0 dg0 5 oT) := turn_ok (by decide) dg0_ok dg0_ok dig_z (fun _ _ _ _ => ⟨none, none, none, none, fit_n _, fit_n _, fit_n _, fit_n _, toldT rtz_5_0⟩)
theorem tz6 : SpOk Tryz.prog 6 (sT dg0 dg0 6 oT) := turn_ok (by decide) dg0_ok dg0_ok dig_z (fun a _ _ _ => match a with | true => ⟨some true, none, none, none, fit_s _, fit_n _, fit_n _, fit_n _, toldT rtz_6_1⟩ | false => ⟨some false, none, none, none, fit_s _, fit_n _, fit_n _, fit_n _, toldT rtz_6_0⟩)
theorem tz7 : SpOk Tryz.prog 6 (sT dg0 dg0 7 oT) := turn_ok (by decide) dg0_ok dg0_ok dig_z (fun a b _ _ => match b with | true => ⟨none, some true, none, none, fit_n _, fit_s _, fit_n _, fit_n _, toldT rtz_7_2⟩ | false => match a with | true => ⟨some true, some false, none, none, fit_s _, fit_s _, fit_n _, fit_n _, toldT rtz_7_1⟩ | false => ⟨some false, some false, none, none, fit_s _, fit_s _, fit_n _, fit_n _, toldT rtz_7_0⟩)
theorem tz8 : SpOk Tryz.prog 6 (sT dg0 dg0 8 oT) := turn_ok (by decide) dg0_ok dg0_ok dig_z (fun a b c _ => match c with | true => ⟨none, none, some true, none, fit_n _, fit_n _, fit_s _, fit_n _, toldT rtz_8_3⟩ | false => match b with | true => ⟨none, some true, some false, none, fit_n _, fit_s _, fit_s _, fit_n _, toldT rtz_8_2⟩ | false => match a with | true => ⟨some true, some false, some false, none, fit_s _, fit_s _, fit_s _, fit_n _, toldT rtz_8_1⟩ | false => ⟨some false, some false, some false, none, fit_s _, fit_s _, fit_s _, fit_n _, toldT rtz_8_0⟩)
theorem tz9 : SpOk Tryz.prog 6 (sT dg0 dg0 9 oT) := turn_ok (by decide) dg0_ok dg0_ok dig_z (fun a b c d => match d with | true => ⟨none, none, none, some true, fit_n _, fit_n _, fit_n _, fit_s _, toldT rtz_9_4⟩ | false => match c with | true => ⟨none, none, some true, some false, fit_n _, fit_n _, fit_s _, fit_s _, toldT rtz_9_3⟩ | false => match b with | true => ⟨none, some true, some false, some false, fit_n _, fit_s _, fit_s _, fit_s _, toldT rtz_9_2⟩ | false => match a with | true => ⟨some true, some false, some false, some false, fit_s _, fit_s _, fit_s _, fit_s _, toldT rtz_9_1⟩ | false => ⟨some false, some false, some false, some false, fit_s _, fit_s _, fit_s _, fit_s _, toldT rtz_9_0⟩)
theorem tzs : SpOk Tryz.prog 6 (sTs dg0 dg0 oT) := spOr_ok (tz1) (spOr_ok (tz2) (spOr_ok (tz3) (spOr_ok (tz4) (spOr_ok (tz5) (spOr_ok (tz6) (spOr_ok (tz7) (spOr_ok (tz8) (tz9))))))))
theorem cl1 {b c p q : Nat} (hb : 1 ≤ b) (hb2 : b < 16) (hc : c < 256) (hp : p < 256) (hq : q < 256) (W : World) (hg : GloW Tryz.prog W) : Calls Tryz.prog 3 #[.int .u8 (b : Int), .int .u8 (c : Int), .int .u8 (p : Int), .int .u8 (q : Int)] W fun r w' => r = .returned (.bool true) ∧ w'.os = W.os ∧ w'.tape = W.tape ∧ w'.output = W.output ∧ W.heap.size ≤ w'.heap.size ∧ ∀ b, b < W.heap.size → w'.heap[b]? = W.heap[b]? := by
  have hjb : ln (b - 1) (laB 1 15) = b := by rw [ln_laB (by decide) (by decide) (by omega), Nat.mod_eq_of_lt (by omega)]; omega
  by_cases hc0 : c = 0
  · subst hc0
    exact law_at lv3_1 (sS_ok rfl rv3_1) (tbs (by decide) (by decide) (by decide)) (j := b - 1) (by omega) hp hq (laB_at (by decide) (by decide) hjb) (fun θ _ => nul_at θ) W hg
  by_cases hcb : c = b
  · subst hcb
    exact law_at lv4_1 (sS_ok rfl rv4_1) (tbs (by decide) (by decide) (by decide)) (j := c - 1) (by omega) hp hq (laB_at (by decide) (by decide) hjb) (laB_at (by decide) (by decide) hjb) W hg
  obtain ⟨j, hj, j1, j2⟩ := lane_of (s := 1) (m := 15) (by decide) (by decide) (by decide) hb hb2 hc hc0 hcb
  rw [show 4096 / 15 = 273 from rfl] at j2
  generalize hk : c / 273 = k at j2
  rcases (show k = 0 by omega) with rfl
  · exact law_at lv1_1_0 (sS_ok rfl rv1_1_0) (tbs (by decide) (by decide) (by decide)) hj hp hq (laB_at (by decide) (by decide) j1) (laD_at j2) W hg
theorem cl16 {b c p q : Nat} (hb : 16 ≤ b) (hb2 : b < 100) (hc : c < 256) (hp : p < 256) (hq : q < 256) (W : World) (hg : GloW Tryz.prog W) : Calls Tryz.prog 3 #[.int .u8 (b : Int), .int .u8 (c : Int), .int .u8 (p : Int), .int .u8 (q : Int)] W fun r w' => r = .returned (.bool true) ∧ w'.os = W.os ∧ w'.tape = W.tape ∧ w'.output = W.output ∧ W.heap.size ≤ w'.heap.size ∧ ∀ b, b < W.heap.size → w'.heap[b]? = W.heap[b]? := by
  have hjb : ln (b - 16) (laB 16 84) = b := by rw [ln_laB (by decide) (by decide) (by omega), Nat.mod_eq_of_lt (by omega)]; omega
  by_cases hc0 : c = 0
  · subst hc0
    exact law_at lv3_16 (sS_ok rfl rv3_16) (tbs (by decide) (by decide) (by decide)) (j := b - 16) (by omega) hp hq (laB_at (by decide) (by decide) hjb) (fun θ _ => nul_at θ) W hg
  by_cases hcb : c = b
  · subst hcb
    exact law_at lv4_16 (sS_ok rfl rv4_16) (tbs (by decide) (by decide) (by decide)) (j := c - 16) (by omega) hp hq (laB_at (by decide) (by decide) hjb) (laB_at (by decide) (by decide) hjb) W hg
  obtain ⟨j, hj, j1, j2⟩ := lane_of (s := 16) (m := 84) (by decide) (by decide) (by decide) hb hb2 hc hc0 hcb
  rw [show 4096 / 84 = 48 from rfl] at j2
  generalize hk : c / 48 = k at j2
  rcases (show k = 0 ∨ k = 1 ∨ k = 2 ∨ k = 3 ∨ k = 4 ∨ k = 5 by omega) with rfl | rfl | rfl | rfl | rfl | rfl
  · exact law_at lv1_16_0 (sS_ok rfl rv1_16_0) (tbs (by decide) (by decide) (by decide)) hj hp hq (laB_at (by decide) (by decide) j1) (laD_at j2) W hg
  · exact law_at lv1_16_1 (sS_ok rfl rv1_16_1) (tbs (by decide) (by decide) (by decide)) hj hp hq (laB_at (by decide) (by decide) j1) (laD_at j2) W hg
  · exact law_at lv1_16_2 (sS_ok rfl rv1_16_2) (tbs (by decide) (by decide) (by decide)) hj hp hq (laB_at (by decide) (by decide) j1) (laD_at j2) W hg
  · exact law_at lv1_16_3 (sS_ok rfl rv1_16_3) (tbs (by decide) (by decide) (by decide)) hj hp hq (laB_at (by decide) (by decide) j1) (laD_at j2) W hg
  · exact law_at lv1_16_4 (sS_ok rfl rv1_16_4) (tbs (by decide) (by decide) (by decide)) hj hp hq (laB_at (by decide) (by decide) j1) (laD_at j2) W hg
  · exact law_at lv1_16_5 (sS_ok rfl rv1_16_5) (tbs (by decide) (by decide) (by decide)) hj hp hq (laB_at (by decide) (by decide) j1) (laD_at j2) W hg
theorem cl100 {b c p q : Nat} (hb : 100 ≤ b) (hb2 : b < 256) (hc : c < 256) (hp : p < 256) (hq : q < 256) (W : World) (hg : GloW Tryz.prog W) : Calls Tryz.prog 3 #[.int .u8 (b : Int), .int .u8 (c : Int), .int .u8 (p : Int), .int .u8 (q : Int)] W fun r w' => r = .returned (.bool true) ∧ w'.os = W.os ∧ w'.tape = W.tape ∧ w'.output = W.output ∧ W.heap.size ≤ w'.heap.size ∧ ∀ b, b < W.heap.size → w'.heap[b]? = W.heap[b]? := by
  have hjb : ln (b - 100) (laB 100 156) = b := by rw [ln_laB (by decide) (by decide) (by omega), Nat.mod_eq_of_lt (by omega)]; omega
  by_cases hc0 : c = 0
  · subst hc0
    exact law_at lv3_100 (sS_ok rfl rv3_100) (tbs (by decide) (by decide) (by decide)) (j := b - 100) (by omega) hp hq (laB_at (by decide) (by decide) hjb) (fun θ _ => nul_at θ) W hg
  by_cases hcb : c = b
  · subst hcb
    exact law_at lv4_100 (sS_ok rfl rv4_100) (tbs (by decide) (by decide) (by decide)) (j := c - 100) (by omega) hp hq (laB_at (by decide) (by decide) hjb) (laB_at (by decide) (by decide) hjb) W hg
  obtain ⟨j, hj, j1, j2⟩ := lane_of (s := 100) (m := 156) (by decide) (by decide) (by decide) hb hb2 hc hc0 hcb
  rw [show 4096 / 156 = 26 from rfl] at j2
  generalize hk : c / 26 = k at j2
  rcases (show k = 0 ∨ k = 1 ∨ k = 2 ∨ k = 3 ∨ k = 4 ∨ k = 5 ∨ k = 6 ∨ k = 7 ∨ k = 8 ∨ k = 9 by omega) with rfl | rfl | rfl | rfl | rfl | rfl | rfl | rfl | rfl | rfl
  · exact law_at lv1_100_0 (sS_ok rfl rv1_100_0) (tbs (by decide) (by decide) (by decide)) hj hp hq (laB_at (by decide) (by decide) j1) (laD_at j2) W hg
  · exact law_at lv1_100_1 (sS_ok rfl rv1_100_1) (tbs (by decide) (by decide) (by decide)) hj hp hq (laB_at (by decide) (by decide) j1) (laD_at j2) W hg
  · exact law_at lv1_100_2 (sS_ok rfl rv1_100_2) (tbs (by decide) (by decide) (by decide)) hj hp hq (laB_at (by decide) (by decide) j1) (laD_at j2) W hg
  · exact law_at lv1_100_3 (sS_ok rfl rv1_100_3) (tbs (by decide) (by decide) (by decide)) hj hp hq (laB_at (by decide) (by decide) j1) (laD_at j2) W hg
  · exact law_at lv1_100_4 (sS_ok rfl rv1_100_4) (tbs (by decide) (by decide) (by decide)) hj hp hq (laB_at (by decide) (by decide) j1) (laD_at j2) W hg
  · exact law_at lv1_100_5 (sS_ok rfl rv1_100_5) (tbs (by decide) (by decide) (by decide)) hj hp hq (laB_at (by decide) (by decide) j1) (laD_at j2) W hg
  · exact law_at lv1_100_6 (sS_ok rfl rv1_100_6) (tbs (by decide) (by decide) (by decide)) hj hp hq (laB_at (by decide) (by decide) j1) (laD_at j2) W hg
  · exact law_at lv1_100_7 (sS_ok rfl rv1_100_7) (tbs (by decide) (by decide) (by decide)) hj hp hq (laB_at (by decide) (by decide) j1) (laD_at j2) W hg
  · exact law_at lv1_100_8 (sS_ok rfl rv1_100_8) (tbs (by decide) (by decide) (by decide)) hj hp hq (laB_at (by decide) (by decide) j1) (laD_at j2) W hg
  · exact law_at lv1_100_9 (sS_ok rfl rv1_100_9) (tbs (by decide) (by decide) (by decide)) hj hp hq (laB_at (by decide) (by decide) j1) (laD_at j2) W hg
theorem clAll {b c p q : Nat} (hb : b < 256) (hc : c < 256) (hp : p < 256) (hq : q < 256) (W : World) (hg : GloW Tryz.prog W) : Calls Tryz.prog 3 #[.int .u8 (b : Int), .int .u8 (c : Int), .int .u8 (p : Int), .int .u8 (q : Int)] W fun r w' => r = .returned (.bool true) ∧ w'.os = W.os ∧ w'.tape = W.tape ∧ w'.output = W.output ∧ W.heap.size ≤ w'.heap.size ∧ ∀ b, b < W.heap.size → w'.heap[b]? = W.heap[b]? := by
  by_cases h0 : b = 0
  · subst h0
    by_cases hc0 : c = 0
    · subst hc0
      exact law_at lv6 (sS_ok rfl rv6) tzs (j := 0) (by decide) hp hq (fun θ _ => nul_at θ) (fun θ _ => nul_at θ) W hg
    · obtain ⟨j, hj, j1, j2⟩ := lane_of (s := 0) (m := 1) (b := 0) (by decide) (by decide) (by decide) (by decide) (by decide) hc hc0 hc0
      rw [show c / (4096 / 1) = 0 by omega] at j2
      exact law_at lv5 (sS_ok rfl rv5) tzs hj hp hq (fun θ _ => nul_at θ) (laD_at j2) W hg
  by_cases h1 : b < 16
  · exact cl1 (by omega) (by omega) hc hp hq W hg
  by_cases h2 : b < 100
  · exact cl16 (by omega) (by omega) hc hp hq W hg
  · exact cl100 (by omega) (by omega) hc hp hq W hg
end Go.AM
