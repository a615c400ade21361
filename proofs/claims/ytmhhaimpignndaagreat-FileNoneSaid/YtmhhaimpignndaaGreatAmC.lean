/-
  AM, 3: what is read once more, steps, runs. Conditions: none.
-/
import Derived.Test.YtmhhaimpignndaaGreatAmB
namespace Go.AM
open Go

mutual
def beqV : AV → AV → Bool
  | .i k n, .i k' m => Nat.beq k k' && (n == m)
  | .b c, .b d => c == d
  | .s l, .s r => l == r
  | .p o i, .p o' i' => Nat.beq o o' && Nat.beq i i'
  | .np, .np => true
  | .sl o i l c, .sl o' i' l' c' => Nat.beq o o' && Nat.beq i i' && Nat.beq l l' && c == c'
  | .ns, .ns => true
  | .m o, .m o' => Nat.beq o o'
  | .nm, .nm => true
  | .fn f l, .fn f' l' => Nat.beq f f' && beqVs l l'
  | .yl o, .yl o' => Nat.beq o o'
  | .nf, .nf => true
  | .ifc t v, .ifc t' v' => Nat.beq t t' && beqV v v'
  | .ni, .ni => true
  | .x n, .x m => Nat.beq n m
  | .xi n k r m, .xi n' k' r' m' => Nat.beq n n' && Nat.beq k k' && Nat.beq r r' && Nat.beq m m'
  | .l k n, .l k' n' => Nat.beq k k' && Nat.beq n n'
  | .q o i n, .q o' i' n' => Nat.beq o o' && Nat.beq i i' && Nat.beq n n'
  | .t l, .t l' => beqVs l l'
  | .f n m, .f n' m' => Nat.beq n n' && Nat.beq m m'
  | .z n m, .z n' m' => Nat.beq n n' && Nat.beq m m'
  | .ag l, .ag l' => beqVs l l'
  | .tu l, .tu l' => beqVs l l'
  | _, _ => false
def beqVs : List AV → List AV → Bool
  | [], [] => true
  | x :: r, y :: s => beqV x y && beqVs r s
  | _, _ => false
end

/-! ### What a drawn region reads once more: the answer must be as it was -/
/-- the same operation again, that changes nothing -/
noncomputable def sAg (g : GdF) (x : XF) (f : OpF) (r : SegF) : SegF := fun en h nx κ =>
  g en (x en fun old => f en h nx fun v _ _ => br (beqV old v) (r en h nx κ) false) (r en h nx κ)

/-! ### Steps -/
/-- a state's rest: goes on with these things to do -/
abbrev StF := Env → List T → Fr → List AFr → H → Nat → (ASt → R) → R
noncomputable def stGo : StF := fun en k fr cs h nx κ => κ (.mk en k fr cs h nx)
/-- the temporaries that a call begins with -/
noncomputable def e0 : Env := repL AV undef 3
noncomputable def enlK (vs : List AV) : Nat → Env → (Env → R) → R :=
  @List.rec AV (fun _ => Nat → Env → (Env → R) → R) (fun _ en κ => κ en) (fun v _ ih j en κ => setK AV v 3 j en fun en => fnat (Nat.succ j) fun j => ih j en κ) vs
noncomputable def asN0 : AssF := fun vs en κ => match vs with | [] => κ en | _ => false
noncomputable def asC (t : Nat) (r : AssF) : AssF := fun vs en κ => match vs with | [] => false | v :: vs => setK AV v 3 t en fun en => r vs en κ
noncomputable def fnOf (tb : Tb) (f : Nat) (κ : C → ResF → R) : R := match tb with | .mk t _ _ => getK (Option AFn) (opt AFn fun u => match u with | .mk c r => κ c r | .sp _ => false) 4 f t
noncomputable def enOf (tb : Tb) (f : Nat) (κ : C → R) (σ : SpF → R) : R := match tb with | .mk t _ _ => getK (Option AFn) (opt AFn fun u => match u with | .mk c _ => κ c | .sp s => σ s) 4 f t
noncomputable def lpOf (tb : Tb) (l : Nat) (κ : AssF → C → C → R) : R := match tb with | .mk _ t _ => getK (Option ALp) (opt ALp fun u => match u with | .mk p a b => κ p a b) 5 l t
noncomputable def asLp (κ : LoopState → J → Nat → Nat → Env → Nat → R) (a : AO) : R := match a with | .lp st j fn li en ds => κ st j fn li en ds | _ => false
/-- a call ends, with value v -/
noncomputable def backK (kd : Bool) (v : AV) (cs : List AFr) (h : H) (nx : Nat) (κ : ASt → R) : R :=
  match cs with
  | [] => κ (.fin v h nx)
  | .mk en td fr :: cs => br kd (κ (.mk en td fr cs h nx)) (match td with
      | .wt d r :: k => d v en fun en => κ (.mk en (.rg r :: k) fr cs h nx)
      | .irf o :: k => κ (.mk en (.erf o :: k) fr cs h nx)
      | _ => false)
/-- to a caller -/
noncomputable def backR (kd : Bool) (v : AV) (cs : List AFr) (h : H) (nx : Nat) (κ : ASt → R) : R := match cs with
  | [] => false
  | c :: cs => backK kd v (c :: cs) h nx κ
/-- all numbers below m -/
noncomputable def allN (m : Nat) (κ : Nat → R) : R := @Nat.rec (fun _ => R) true (fun r ih => br (fnat r κ) ih false) m
/-- what is left of a number handed in: whichever it be -/
noncomputable def forkA (vs : List AV) : (List AV → R) → R :=
  @List.rec AV (fun _ => (List AV → R) → R) (fun κ => κ []) (fun v _ ih κ => match v with
    | .f _ m => allN m fun r => ih fun vs => κ (.i 3 (.ofNat r) :: vs)
    | v => ih fun vs => κ (v :: vs)) vs
noncomputable def enterK (tb : Tb) (f : Nat) (vs : List AV) (kd : Bool) (cs : List AFr) (h : H) (nx : Nat) (κ : ASt → R) : R :=
  br (Nat.ble (lenN AV vs) 512) (enOf tb f (fun c => forkA vs fun vs => enlK vs 0 e0 fun en => κ (.mk en [.c c] (.mk f [] kd none) cs h nx)) fun s => br kd false (s vs h nx fun v h nx => backR false v cs h nx κ)) false
/-- a value called -/
noncomputable def callvK (tb : Tb) (v : AV) (vs : List AV) (cs : List AFr) (h : H) (nx : Nat) (κ : ASt → R) : R :=
  match v with
  | .fn f caps => appK AV vs caps fun vs => enterK tb f vs false cs h nx κ
  | .yl o => get o h (asLp fun _ _ fn li en _ => lpOf tb li fun ps a b => ps vs en fun en => κ (.mk en [.c a, .br, .c b] (.mk fn [] false (some o)) cs h nx))
  | _ => false
noncomputable def fndF (t : Nat) (κ : Nat → R) (l : List (Nat × Nat)) : R := @List.rec (Nat × Nat) (fun _ => R) false (fun p _ ih => match p with | (t', f) => br (Nat.beq t' t) (κ f) ih) l
/-- a method of an interface value called -/
noncomputable def invK (tb : Tb) (tbl : List (Nat × Nat)) (v : AV) (vs : List AV) (cs : List AFr) (h : H) (nx : Nat) (κ : ASt → R) : R := match v with
  | .ifc t v => fndF t (fun f => enterK tb f (v :: vs) false cs h nx κ) tbl
  | _ => false
/-- the end of a round -/
noncomputable def endK (o : Nat) (j : J) (kd : Bool) (cs : List AFr) (h : H) (nx : Nat) (κ : ASt → R) : R :=
  get o h (asLp fun _ _ fn li en ds => match j with
    | .no => put o (.lp .ready .no fn li en ds) h fun h => backR kd (.b true) cs h nx κ
    | j => put o (.lp .done j fn li en ds) h fun h => backR kd (.b false) cs h nx κ)
noncomputable def exitTo' (id : Nat) (td : List T) : Option (List T) :=
  @List.rec T (fun _ => Option (List T)) none (fun t k ih => match t with | .blk id' => @Bool.rec (fun _ => Option (List T)) ih (some k) (Nat.beq id' id) | _ => ih) td
/-- a body left by ret, or off its end -/
noncomputable def leaveK (j : J) : StF := fun en _ fr cs h nx κ => match fr with
  | .mk fn df kd rd => @Option.rec Nat (fun _ => R) (κ (.mk en [.rt] fr cs h nx)) (fun o => endK o j kd cs h nx κ) rd
noncomputable def retK (tb : Tb) : StF := fun en _ fr cs h nx κ => match fr with
  | .mk fn df kd rd => match df with
    | [] => fnOf tb fn fun _ rs => rs en h fun v => backK kd v cs h nx κ
    | .fn f vs :: ds => enterK tb f vs true (.mk en [.rt] (.mk fn ds kd rd) :: cs) h nx κ
    | .col o :: ds => get o h fun x => (match x with
        | .df true => put o (.df false) h fun h => κ (.mk en [.rt] (.mk fn ds kd rd) cs h nx)
        | _ => false)
noncomputable def rgK (tb : Tb) (r : Rg) : StF := match r with
  | .fin s => fun en k fr cs h nx κ => s en h nx fun en h nx => κ (.mk en k fr cs h nx)
  | .call s g d f xs r => fun en k fr cs h nx κ => s en h nx fun en h nx => g en (xs en fun vs => enterK tb f vs false (.mk en (.wt d r :: k) fr :: cs) h nx κ)
      (d undef en fun en => κ (.mk en (.rg r :: k) fr cs h nx))
  | .calv s g d x xs r => fun en k fr cs h nx κ => s en h nx fun en h nx => g en (x en fun v => xs en fun vs => callvK tb v vs (.mk en (.wt d r :: k) fr :: cs) h nx κ)
      (d undef en fun en => κ (.mk en (.rg r :: k) fr cs h nx))
  | .dfr s g d x xs r => fun en k fr cs h nx κ => s en h nx fun en h nx => g en (match fr with
        | .mk fn df kd none => x en fun v => xs en fun vs => (match v with
            | .fn f caps => appK AV vs caps fun vs => d undef en fun en => κ (.mk en (.rg r :: k) (.mk fn (.fn f vs :: df) kd none) cs h nx)
            | _ => false)
        | _ => false)
      (d undef en fun en => κ (.mk en (.rg r :: k) fr cs h nx))
  | .inv s g d tbl x xs r => fun en k fr cs h nx κ => s en h nx fun en h nx => g en (x en fun v => xs en fun vs => invK tb tbl v vs (.mk en (.wt d r :: k) fr :: cs) h nx κ)
      (d undef en fun en => κ (.mk en (.rg r :: k) fr cs h nx))
  | .rcv s g d r => fun en k fr cs h nx κ => s en h nx fun en h nx => g en (match fr with
        | .mk _ _ _ none => d .ni en fun en => κ (.mk en (.rg r :: k) fr cs h nx)
        | _ => false)
      (d undef en fun en => κ (.mk en (.rg r :: k) fr cs h nx))
noncomputable def rfK (tb : Tb) (x : XF) (li : Nat) : StF := fun en k fr cs h nx κ => match fr with
  | .mk fn df kd rd => x en fun v => match rd with
    | none => newK (.df true) h nx fun r h nx => newK (.lp .ready .no fn li en r) h nx fun l h nx =>
        callvK tb v [.yl l] (.mk en (.irf l :: k) (.mk fn (.col r :: df) kd rd) :: cs) h nx κ
    | some l₀ => get l₀ h (asLp fun _ _ _ _ _ ds => newK (.lp .ready .no fn li en ds) h nx fun l h nx => callvK tb v [.yl l] (.mk en (.irf l :: k) fr :: cs) h nx κ)
noncomputable def exitK (id : Nat) : StF := fun en k fr cs h nx κ => match exitTo' id k with
  | some k => κ (.mk en k fr cs h nx)
  | none => (match fr with
    | .mk _ _ kd rd => opt Nat (fun o => endK o (.exit id) kd cs h nx κ) rd)
/-- a test, maybe one in lanes: then both ways are gone -/
noncomputable def asBL (κ : Bool → R) (v : AV) : R := match v with
  | .l q _ => br (Nat.beq q 9) (br (κ true) (κ false) false) false
  | v => asB κ v
theorem asBL_b (c : Bool) (κ : Bool → R) : asBL κ (.b c) = κ c := rfl
noncomputable def condK (x : XF) (a b : StF) : StF := fun en k fr cs h nx κ => x en (asBL fun c => br c (a en k fr cs h nx κ) (b en k fr cs h nx κ))
noncomputable def pushK (t : T) (a : StF) : StF := fun en k => a en (t :: k)
noncomputable def stBad : StF := fun _ _ _ _ _ _ _ => false
noncomputable def splK (tb : Tb) (s : SegF) (a : StF) : StF := fun en k fr cs h nx κ => match tb with | .mk _ _ lv => br lv (s en h nx fun en h nx => κ (.mk en k fr cs h nx)) (a en k fr cs h nx κ)
noncomputable def codeK (tb : Tb) (c : C) : StF :=
  @C.rec (fun _ => StF) stGo (fun r => rgK tb r) (fun _ b ia _ => pushK (.c b) ia) (fun x _ _ ia ib => condK x ia ib) (fun id _ ia => pushK (.blk id) ia) (fun a ia => pushK (.lp a) ia)
    (fun x li => rfK tb x li) (fun id => exitK id) (fun _ ia => pushK .sc ia) stBad (leaveK .ret) (fun s _ ia => splK tb s ia) c
noncomputable def brK : StF := fun en k fr cs h nx κ => match fr with
  | .mk _ _ _ rd => opt Nat (fun o => get o h (asLp fun st j fn li en' ds => match st with
      | .ready => put o (.lp .busy j fn li en' ds) h fun h => κ (.mk en k fr cs h nx)
      | _ => false)) rd
noncomputable def erfK (o : Nat) : StF := fun en k fr cs h nx κ => get o h (asLp fun st j fn li en' ds =>
  let go (td : List T) : R := put o (.lp .exhausted j fn li en' ds) h fun h => κ (.mk en td fr cs h nx)
  let on : R := (match j with | .no => go k | .ret => go (.c .ret :: k) | .exit id => go (.c (.exit id) :: k))
  (match st with | .busy => false | _ => on))
noncomputable def itemK (tb : Tb) (t : T) : StF :=
  @T.rec (fun _ => StF) (fun c => codeK tb c) (fun r => rgK tb r) (fun _ => stGo) (fun c => pushK (.lp c) (codeK tb c)) (fun _ _ => stBad) (retK tb) stGo (fun _ => stBad) (fun o => erfK o) brK t
noncomputable def todoK (tb : Tb) (td : List T) (en : Env) : Fr → List AFr → H → Nat → (ASt → R) → R :=
  @List.rec T (fun _ => Fr → List AFr → H → Nat → (ASt → R) → R) (leaveK .no en []) (fun t k _ => itemK tb t en k) td
noncomputable def stepK (tb : Tb) (s : ASt) (κ : ASt → R) : R :=
  @ASt.rec (fun _ => R) (fun en td fr cs h nx => todoK tb td en fr cs h nx κ) (fun _ _ _ => false) s
/-- n steps -/
noncomputable def run (tb : Tb) (n : Nat) : ASt → (ASt → R) → R :=
  @Nat.rec (fun _ => ASt → (ASt → R) → R) (fun s κ => κ s) (fun _ ih s κ => stepK tb s fun s => ih s κ) n
/-- steps until the end, at most n -/
noncomputable def runF (tb : Tb) (n : Nat) : ASt → (AV → H → Nat → R) → R :=
  @Nat.rec (fun _ => ASt → (AV → H → Nat → R) → R) (fun _ _ => false) (fun _ ih s κ => @ASt.rec (fun _ => R) (fun en td fr cs h nx => todoK tb td en fr cs h nx fun s => ih s κ) (fun v h nx => κ v h nx) s) n
end Go.AM
