/- For the seat: an instruction as an argument. -/
import Derived.Test.YtdabbjjnolkelaaBase
namespace Go.Proofs.Ytdabbjjnolkelaa
open Go.Sx Go.ChangeShapes Go.WideShapes Go.RowKit Go.Joins Go.Deep

def argT (o c n i : Tm) : SVal :=
  .agg (.cons (.int .i64 o) (.cons (.int .i64 c) (.cons (.int .i64 (.var 2)) (.cons (.int .i64 n) (.cons (.int .i64 (.var 4)) (.cons (.int .i64 i) (.cons (.int .i64 (.var 6)) (.cons (.int .i64 (.var 7)) (.cons (.bool (.var 8)) .nil)))))))))

structure Fields where
  x0 : Int
  x1 : Int
  x2 : Int
  x3 : Int
  x4 : Int
  x5 : Int
  x6 : Int
  x7 : Int
  b : Bool

def Fields.val (x : Fields) : Value := .agg #[.int .i64 x.x0, .int .i64 x.x1, .int .i64 x.x2, .int .i64 x.x3, .int .i64 x.x4, .int .i64 x.x5, .int .i64 x.x6, .int .i64 x.x7, .bool x.b]
def Fields.env (x : Fields) : Env := envOf (fun _ _ => .int 0) [.int x.x0, .int x.x1, .int x.x2, .int x.x3, .int x.x4, .int x.x5, .int x.x6, .int x.x7, .bool x.b]

theorem arg_conc (x : Fields) {o c n i : Tm} (ho : o.den x.env = .int x.x0) (hc : c.den x.env = .int x.x1) (hn : n.den x.env = .int x.x3) (hi : i.den x.env = .int x.x5) (ι : Nm) : (argT o c n i).conc x.env ι = x.val := by
  simp only [argT, SVal.conc, SVal.concL, ho, hc, hn, hi, Fields.val]
  rfl

/-- A law of an instruction, walked at some of its inputs. -/
theorem law_ins {f : FuncId} (x : Fields) {o c n i : Tm} (ho : o.den x.env = .int x.x0) (hc : c.den x.env = .int x.x1) (hn : n.den x.env = .int x.x3) (hi : i.den x.env = .int x.x5) {pc : Tm} (hpc : (pc.den x.env).asBool = true)
    (hx : isTrue (callT cx awakeS (run cx awakeS 400) f [argT o c n i] [] pc) = true) (w : World) : Calls Try.prog f #[x.val] w fun e w' => e = .returned (.bool true) ∧ Grown w w' := by
  have := law_true (ρ := x.env) cxok rfl (awakeS_ok _) awakeS_body (by intro v hv; simp at hv; subst hv; rfl) hpc hx w
  rw [List.map_cons, List.map_nil, arg_conc x ho hc hn hi] at this
  exact this

theorem open_ins {H : Type} {enc : TypeId × Value → H} {w : World} {base : Nat} {spare : Nat → Bool} {held : Bool} {r : Reach} {b0 : Nat} {v : Value} {d : DataW H} {p : List MemPlace}
    (hv : Value.okWide Try.prog w r b0 29 v) (h : DataW.Trod enc Try.prog w base spare held 29 v d p) :
    ∃ x : Fields, v = x.val ∧ p = [] ∧ ∀ (w' : World) (base' : Nat) (spare' : Nat → Bool) (held' : Bool), DataW.Trod enc Try.prog w' base' spare' held' 29 v d [] := by
  obtain ⟨vs, rfl, hl, hf, hp, ht⟩ := open_flat (ks := [some .i64, some .i64, some .i64, some .i64, some .i64, some .i64, some .i64, some .i64, none]) Try.underlying29 (by kernel_rfl) (by kernel_rfl) (by kernel_rfl) hv h
  match vs, hl with
  | [v0, v1, v2, v3, v4, v5, v6, v7, v8], _ =>
    obtain ⟨_, e0, n0, rfl, _⟩ := hf 0 _ rfl
    obtain ⟨_, e1, n1, rfl, _⟩ := hf 1 _ rfl
    obtain ⟨_, e2, n2, rfl, _⟩ := hf 2 _ rfl
    obtain ⟨_, e3, n3, rfl, _⟩ := hf 3 _ rfl
    obtain ⟨_, e4, n4, rfl, _⟩ := hf 4 _ rfl
    obtain ⟨_, e5, n5, rfl, _⟩ := hf 5 _ rfl
    obtain ⟨_, e6, n6, rfl, _⟩ := hf 6 _ rfl
    obtain ⟨_, e7, n7, rfl, _⟩ := hf 7 _ rfl
    obtain ⟨_, e8, b, rfl⟩ := hf 8 _ rfl
    simp only [List.getElem?_cons_zero, List.getElem?_cons_succ, Option.some.injEq] at e0 e1 e2 e3 e4 e5 e6 e7 e8
    subst e0 e1 e2 e3 e4 e5 e6 e7 e8
    exact ⟨⟨n0, n1, n2, n3, n4, n5, n6, n7, b⟩, rfl, hp, ht⟩

end Go.Proofs.Ytdabbjjnolkelaa
