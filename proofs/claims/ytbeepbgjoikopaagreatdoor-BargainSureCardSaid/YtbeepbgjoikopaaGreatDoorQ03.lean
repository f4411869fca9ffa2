/-
  Part Q3 of the proof; by an AI agent.
-/
import Derived.Test.YtbeepbgjoikopaaGreatDoorQ02
set_option maxRecDepth 100000
set_option maxHeartbeats 8000000
section
namespace Go.Pal
inductive KindT where
 | bool | int | ptr | iface | func
 | struct (fs:List (TypeId×Nat))
 | array (n:Nat) (e:TypeId)
def B8(P:Program)(t:TypeId):Option KindT:=
 match P.underlying t with
 | some .bool=>some .bool
 | some (.int _)=>some .int
 | some (.pointer _)=>some .ptr
 | some (.interface _)=>some .iface
 | some (.func _ _ _)=>some .func
 | some (.struct fs)=>if P.stoodInHeld t=false∧fs.toList.all (λf=>f.name != "_")=true then some (.struct (fs.toList.map λf=>(f.type,f.offset))) else none
 | some (.array n e)=>some (.array n e)
 | _=>none
def Cw(cs:Array Value)(off:Nat)(g:Bool)(n:Nat):Option Value:=if g then some (.agg (cs.extract off (off+n))) else cs[off]?
def AE:KindT→Value→Value→Option Bool
 | .bool,.bool a,.bool b=>some (a==b)
 | .int,.int k a,.int k' b=>if k=k' then some (decide (a=b)) else none
 | .ptr,.pointer none,.pointer b=>some b.isNone
 | .ptr,.pointer (some _),.pointer none=>some false
 | .iface,.nilIface,.nilIface=>some true
 | .iface,.nilIface,.iface _ _=>some false
 | .iface,.iface _ _,.nilIface=>some false
 | .func,.nilFunc,.nilFunc=>some true
 | .func,.nilFunc,.func _ _ _=>some false
 | .func,.func _ _ _,.nilFunc=>some false
 | _,_,_=>none
def BP(P:Program)(t:TypeId)(cs:Array Value)(off:Nat):Option Value:=
 match Db P t,szT P t with
 | some g,some n=>Cw cs off g n
 | _,_=>none
mutual
def eqV(P:Program):Nat→TypeId→Value→Value→Option Bool
 | 0,_,_,_=>none
 | d+1,t,x,y=>match B8 P t with
  | some (.struct fs)=>match x,y with
   | .agg xs,.agg ys=>eqFs P d fs xs ys
   | _,_=>none
  | some (.array n e)=>match x,y,szT P e with
   | .agg xs,.agg ys,some sz=>eqEs P d e sz n 0 xs ys
   | _,_,_=>none
  | some k=>AE k x y
  | none=>none
def eqFs(P:Program):Nat→List (TypeId×Nat)→Array Value→Array Value→Option Bool
 | _,[],_,_=>some true
 | d,(t,off)::r,xs,ys=>match BP P t xs off,BP P t ys off with
  | some a,some b=>match eqV P d t a b,eqFs P d r xs ys with
   | some u,some v=>some (u && v)
   | _,_=>none
  | _,_=>none
def eqEs(P:Program):Nat→TypeId→Nat→Nat→Nat→Array Value→Array Value→Option Bool
 | _,_,_,0,_,_,_=>some true
 | d,e,sz,n+1,i,xs,ys=>match BP P e xs (i*sz),BP P e ys (i*sz) with
  | some a,some b=>match eqV P d e a b,eqEs P d e sz n (i+1) xs ys with
   | some u,some v=>some (u && v)
   | _,_=>none
  | _,_=>none
end
theorem Hn{P:Program}{E:Value→Hp→Prop}{H:Hp}{t:TypeId}{cs:Array Value}{off n:Nat}{g:Bool}{v:Value}{R:Value→Hp→Prop}(hg:Db P t=some g)(hn:szT P t=some n)(hv:Cw cs off g n=some v)(k:R v H):wpL P E (part t cs off) H R:=by
 unfold part;show wpL P E (Sem.bind (isAgg t) _) H R;rw[Aa];refine IG hg ?_;cases g
 ·simp only[Cw,Bool.false_eq_true,if_false] at hv
  simp only[Bool.false_eq_true,if_false,hv];exact k
 ·simp only[Cw,if_true,Option.some.injEq] at hv
  subst hv;show wpL P E (Sem.bind (sizeOf t) _) H R;rw[Aa];exact AL hn k
theorem CF{P:Program}{E:Value→Hp→Prop}{H:Hp}{t:TypeId}{cs:Array Value}{off:Nat}{v:Value}{R:Value→Hp→Prop}(h:BP P t cs off=some v)(k:R v H):wpL P E (part t cs off) H R:=by
 unfold BP at h;split at h
 ·rename_i g n hg hn;exact Hn hg hn h k
 ·cases h
theorem IR {P : Program} : ∀ (d : Nat) (t : TypeId) (x y : Value) (r : Bool), eqV P d t x y = some r → ∀ (k : Nat) (E : Value → Hp → Prop) (H : Hp) (R : Bool → Hp → Prop), R r H → wpL P E (Op.equalIn (d + k) t x y) H R := by
  intro d
  induction d with
  | zero => intro t x y r h; simp [eqV] at h
  | succ d ih =>
    intro t x y r h k E H R hR
    rw [show d + 1 + k = (d + k) + 1 from by omega]
    unfold Op.equalIn
    show wpL P E (Sem.bind (underlying t) _) H R
    rw [Aa]
    unfold eqV at h
    unfold B8 at h
    cases hu : P.underlying t with
    | none => rw [hu] at h; simp at h
    | some u =>
      refine Ag hu ?_
      rw [hu] at h
      cases u <;> simp only at h <;> (try (simp at h; done))
      case struct fs =>
        by_cases hc : P.stoodInHeld t = false ∧ fs.toList.all (fun f => f.name != "_") = true
        case neg => rw [if_neg hc] at h; simp at h
        rw [if_pos hc] at h
        simp only at h
        split at h
        case h_2 => cases h
        rename_i xs ys
        show wpL P E (Sem.bind program _) H R
        simp only [program, Sem.bind, wpL]
        rw [if_neg (by rw [hc.1]; simp)]
        show wpL P E (Sem.bind (forIn fs _ _) _) H R
        rw [Aa]
        rw [← Array.forIn_toList]
        obtain ⟨_, hname⟩ := hc
        generalize fs.toList = l at h hname
        have key : ∀ (l : List Field) (r : Bool), (l.all fun f => f.name != "_") = true → eqFs P d (l.map fun f => (f.type, f.offset)) xs ys = some r → ∀ (R : Option Bool × PUnit → Hp → Prop), R (if r then (none, ⟨⟩) else (some false, ⟨⟩)) H →
            wpL P E (forIn l ((none, ⟨⟩) : Option Bool × PUnit) fun f r => do
              if f.name ≠ "_" then
                let a ← part f.type xs f.offset
                let b ← part f.type ys f.offset
                let q ← Op.equalIn (d + k) f.type a b
                if (!q) = true then pure (ForInStep.done (some false, ⟨⟩)) else do
                  pure ⟨⟩
                  pure (ForInStep.yield (none, ⟨⟩))
              else do
                pure ⟨⟩
                pure (ForInStep.yield (none, ⟨⟩))) H R := by
          intro l
          induction l with
          | nil => intro r _ h R hR; simp [eqFs] at h; subst h; exact hR
          | cons f l ihl =>
            intro r hn h R hR
            simp only [List.all_cons, Bool.and_eq_true] at hn
            simp only [List.map_cons, eqFs] at h
            split at h
            case h_2 => cases h
            rename_i a b ha hb
            split at h
            case h_2 => cases h
            rename_i u v hu hv
            cases h
            rw [List.forIn_cons]
            show wpL P E (Sem.bind _ _) H R
            rw [Aa, if_pos (by simpa using hn.1)]
            show wpL P E (Sem.bind (part f.type xs f.offset) _) H _
            rw [Aa]
            refine CF ha ?_
            show wpL P E (Sem.bind (part f.type ys f.offset) _) H _
            rw [Aa]
            refine CF hb ?_
            show wpL P E (Sem.bind (Op.equalIn (d + k) f.type a b) _) H _
            rw [Aa]
            refine ih _ _ _ _ hu k _ _ _ ?_
            cases u with
            | false =>
              simp only [Bool.false_and, Bool.false_eq_true, if_false] at hR
              exact hR
            | true =>
              simp only [Bool.true_and] at hR
              exact ihl v hn.2 hv R hR
        refine key l r hname h _ ?_
        cases r with
        | true => exact hR
        | false => exact hR
      case array n e =>
        split at h
        case h_2 => cases h
        rename_i xs ys sz hsz
        show wpL P E (Sem.bind (sizeOf e) _) H R
        rw [Aa]
        refine AL hsz ?_
        show wpL P E (Sem.bind (forIn _ _ _) _) H R
        rw [Aa]
        rw [Std.Legacy.Range.forIn_eq_forIn_range']
        have key : ∀ (n i : Nat) (r : Bool), eqEs P d e sz n i xs ys = some r → ∀ (R : Option Bool × PUnit → Hp → Prop), R (if r then (none, ⟨⟩) else (some false, ⟨⟩)) H →
            wpL P E (forIn (List.range' i n 1) ((none, ⟨⟩) : Option Bool × PUnit) fun i r => do
              let a ← part e xs (i * sz)
              let b ← part e ys (i * sz)
              let q ← Op.equalIn (d + k) e a b
              if (!q) = true then pure (ForInStep.done (some false, ⟨⟩)) else do
                pure ⟨⟩
                pure (ForInStep.yield (none, ⟨⟩))) H R := by
          intro n
          induction n with
          | zero => intro i r h R hR; simp [eqEs] at h; subst h; exact hR
          | succ n ihn =>
            intro i r h R hR
            simp only [eqEs] at h
            split at h
            case h_2 => cases h
            rename_i a b ha hb
            split at h
            case h_2 => cases h
            rename_i u v hu hv
            cases h
            rw [List.range'_succ, List.forIn_cons]
            show wpL P E (Sem.bind _ _) H R
            rw [Aa]
            show wpL P E (Sem.bind (part e xs (i * sz)) _) H _
            rw [Aa]
            refine CF ha ?_
            show wpL P E (Sem.bind (part e ys (i * sz)) _) H _
            rw [Aa]
            refine CF hb ?_
            show wpL P E (Sem.bind (Op.equalIn (d + k) e a b) _) H _
            rw [Aa]
            refine ih _ _ _ _ hu k _ _ _ ?_
            cases u with
            | false =>
              simp only [Bool.false_and, Bool.false_eq_true, if_false] at hR
              exact hR
            | true =>
              simp only [Bool.true_and] at hR
              exact ihn (i + 1) v hv R hR
        simp only [Std.Legacy.Range.size, Nat.sub_zero, Nat.add_one_sub_one, Nat.div_one]
        refine key n 0 r h _ ?_
        cases r with
        | true => exact hR
        | false => exact hR
      case int kk =>
        cases x <;> cases y <;> first
          | (simp [AE] at h; done)
          | (simp only [AE] at h
             split at h
             · rename_i hk
               subst hk
               simp only [Option.some.injEq] at h
               subst h
               simp only [if_true]
               exact hR
             · cases h)
      all_goals
        cases x <;> cases y <;> first
          | (simp [AE] at h; done)
          | (simp only [AE, Option.some.injEq] at h
             subst h
             exact hR)
          | (rename_i a b
             cases a <;> cases b <;> first
               | (simp [AE] at h; done)
               | (simp only [AE, Option.some.injEq] at h
                  subst h
                  exact hR))
end Go.Pal
end
