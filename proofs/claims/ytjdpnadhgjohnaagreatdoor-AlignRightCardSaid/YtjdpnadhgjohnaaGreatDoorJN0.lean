namespace Go.Proofs.YtjdpnadhgjohnaaGreatDoor
theorem J.{u}{α:Sort u}{a:α}:a=a:=rfl
theorem xa {p:Prop}(h:p:=by omega):p:=h
theorem xb {p:Prop}(h:p:=by first|rfl|(simp[List.length_map];done)|(simp[List.length_map];omega)):p:=h
theorem xe {p:Prop}(h:p:=by decide):p:=h
theorem xf {p:Prop}(h:p:=by first|exact .own _ _ _ rfl rfl _ (by first|rfl|simp)|exact .emp|exact .nil|exact .sl _ (by first|simp;done|intro e he;simp at he;obtain⟨_,_,rfl⟩:=he;rfl)):p:=h
theorem xg {p:Prop}(h:p:=by first|omega|(simp;omega)|(unfold maxLen;simp;omega)):p:=h
theorem xh {p:Prop}(h:p:=by repeat' (first|exact Lo.s _|exact zba|refine zaj ?_ ?_|refine zdj ?_|refine Lo.agg _ ?_|refine Lo.sl _ ?_|intro _)):p:=h
theorem xk {p:Prop}(h:p:=by first|simp;done|intro e he;simp at he;obtain⟨_,_,rfl⟩:=he;rfl):p:=h
theorem xm {p:Prop}(h:p:=by simp):p:=h
theorem xn {p:Prop}(h:p:=by first|omega|(simp;done)|(simp;omega)):p:=h
theorem xo {p:Prop}(h:p:=by first|rfl|(simp[List.length_append];done)|(simp[List.length_append];omega)):p:=h
theorem xp {p:Prop}(h:p:=by first|rfl|(simp;done)|(simp;omega)):p:=h
end Go.Proofs.YtjdpnadhgjohnaaGreatDoor
