import Derived.Test.YthoihfighiolmaaGreatPt27
set_option linter.unusedSectionVars false
set_option linter.unusedSimpArgs false
set_option linter.unusedVariables false
namespace Go.Eng
section
variable {l:List GDesc} {self:UInt8} {a b:GDesc} {room:Int}
end
section
variable {l:List GDesc} {self:UInt8} {d e:GDesc} {room:Int}
end
section
variable {l:List GDesc} {self:UInt8} {d e:GDesc} {room:Int}
theorem pc: ∀(r l:List GDesc) (x:GDesc),x∈dy self room l r->x∈l\/x∈r:=by
 intro r
 induction r with
 |nil=>intro l x h;exact .inl h
 | cons y r ih=>
  intro l x h;rcases ih _ x h with h|h
  ·rcases Go.Proofs.YthoihfighiolmaaGreat.put_mem x h with h|h
   ·exact .inl h
   ·exact .inr (by rw[h];exact List.mem_cons_self)
  ·exact .inr (List.mem_cons_of_mem _ h)
