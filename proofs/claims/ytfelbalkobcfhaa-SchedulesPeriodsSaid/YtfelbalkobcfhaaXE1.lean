/- How Go's data read as plain data: types of data, what cells and values represent, and that it stays. Plain theorems, no condition. -/
import Derived.Test.YtfelbalkobcfhaaCommon
set_option linter.unusedVariables false
set_option linter.unusedSimpArgs false
namespace Go.Proofs.Ytfelbalkobcfhaa
open Go.RowKit
inductive GT where
  | int (k:IntKind)
  | bool
  | str
  | sl (e:GT)
  | st (f:GT)
  | pair (a b:GT)
  | arr (n:Nat) (e:GT)
  | raw
structure Sl (α:Type) where
  xs:List α
  cap:Option Nat
@[reducible] def PT:GT → Type
  | .int _=>Int
  | .bool=>Bool
  | .str=>List Int
  | .sl e=>Sl (PT e)
  | .st f=>PT f
  | .pair a b=>PT a × PT b
  | .arr _ e=>List (PT e)
  | .raw=>Value
@[reducible] def GT.sz:GT → Nat
  | .int _=>1
  | .bool=>1
  | .str=>1
  | .sl _=>1
  | .st f=>f.sz
  | .pair a b=>a.sz + b.sz
  | .arr n e=>n * e.sz
  | .raw=>1
def InR (k:IntKind) (x:Int):Prop:=k.min ≤ x ∧ x ≤ k.max
instance (k:IntKind) (x:Int):Decidable (InR k x):=inferInstanceAs (Decidable (k.min ≤ x ∧ x ≤ k.max))
def RowsOf {α:Type} (R:List Value → α → Prop) (sz:Nat) (w:World) (K:Nat → Prop) (A:Option Addr) (xs:List α):Prop :=
  xs = [] ∨ ∃ b off,A = some ⟨b,off,none⟩ ∧ b < w.heap.size ∧ K b ∧ ∀ (j:Nat) (x:α),xs[j]? = some x → ∃ cs,R cs x ∧ cs.length = sz ∧ ∀ (i:Nat) (v:Value),cs[i]? = some v → w.cell? ⟨b,off + j * sz + i,none⟩ = some v
def RepCs:(t:GT) → World → (Nat → Prop) → List Value → PT t → Prop
  | .int k,_,_,cs,x=>cs = [.int k x] ∧ InR k x
  | .bool,_,_,cs,x=>cs = [.bool x]
  | .str,_,_,cs,x=>cs = [.string (strOfNums x)] ∧ Byt x ∧ x.length ≤ 9223372036854775807
  | .sl e,w,K,cs,x=>∃ A n c,cs = [.slice A n c] ∧ x.xs.length = n ∧ n ≤ c ∧ c ≤ 9223372036854775807 ∧ (∀ k,x.cap = some k → c = k) ∧ RowsOf (RepCs e w K) e.sz w K A x.xs
  | .st f,w,K,cs,x=>RepCs f w K cs x
  | .pair a b,w,K,cs,x=>∃ c1 c2,cs = c1 ++ c2 ∧ RepCs a w K c1 x.1 ∧ RepCs b w K c2 x.2
  | .arr n e,w,K,cs,x=>x.length = n ∧ ∃ css:List (List Value),cs = css.flatten ∧ css.length = n ∧ ∀ (j:Nat) c y,css[j]? = some c → x[j]? = some y → RepCs e w K c y
  | .raw,_,_,cs,x=>cs = [x] ∧ ∃ A n c,x = .slice A n c
@[reducible] def GT.agg:GT → Bool
  | .st _=>true
  | .arr _ _=>true
  | _=>false
def RepV (t:GT) (w:World) (K:Nat → Prop) (v:Value) (x:PT t):Prop :=
  ∃ cs:List Value,RepCs t w K cs x ∧ v = if t.agg then .agg cs.toArray else cs.headD undef
theorem RepCs.len:∀ {t:GT} {w K cs} {x:PT t},RepCs t w K cs x → cs.length = t.sz
  | .int _,_,_,_,_,h=>by rw [h.1];rfl
  | .bool,_,_,_,_,h=>by rw [h];rfl
  | .str,_,_,_,_,h=>by rw [h.1];rfl
  | .sl _,_,_,_,_,⟨_,_,_,h,_⟩=>by rw [h];rfl
  | .st f,_,_,_,_,h=>RepCs.len (t:=f) h
  | .pair a b,_,_,_,_,⟨_,_,h,h1,h2⟩=>by rw [h,List.length_append,RepCs.len h1,RepCs.len h2]
  | .arr n e,w,K,_,x,⟨hx,css,h,hl,hr⟩=>by
    rw [h,List.length_flatten]
    show _ = n * e.sz
    have key:∀ (l:List (List Value)) (y:List (PT e)),l.length = y.length → (∀ (j:Nat) c z,l[j]? = some c → y[j]? = some z → RepCs e w K c z) → (l.map List.length).sum = l.length * e.sz:=by
      intro l
      induction l with
      | nil=>intro y _ _;simp
      | cons c l ih =>
        intro y hy hh
        match y,hy with
        | z :: y,hy =>
          have h0:=RepCs.len (hh 0 c z rfl rfl)
          have h1:=ih y (by simpa using hy) (fun j c' z' hc hz=>hh (j + 1) c' z' (by simpa using hc) (by simpa using hz))
          rw [List.map_cons,List.sum_cons,h0,h1,List.length_cons,Nat.add_mul,Nat.one_mul,Nat.add_comm]
    rw [key css x (by omega) hr,hl]
  | .raw,_,_,_,_,h=>by rw [h.1];rfl
def Keeps (K:Nat → Prop) (w w':World):Prop:=w.heap.size ≤ w'.heap.size ∧ ∀ p:Addr,p.block < w.heap.size → K p.block → w'.cell? p = w.cell? p
theorem RowsOf.keep {α:Type} {R R':List Value → α → Prop} {sz:Nat} {w w':World} {K K':Nat → Prop} {A:Option Addr} {xs:List α} (h:RowsOf R sz w K A xs) (hR:∀ cs x,R cs x → R' cs x)
    (hk:Keeps K w w') (hK:∀ b,b < w.heap.size → K b → K' b):RowsOf R' sz w' K' A xs:=by
  rcases h with rfl | ⟨b,off,rfl,hb,hKb,hc⟩
  · exact .inl rfl
  · refine .inr ⟨b,off,rfl,by have:=hk.1;omega,hK b hb hKb,fun j x hj=>?_⟩
    obtain ⟨cs,h1,h2,h3⟩:=hc j x hj
    exact ⟨cs,hR _ _ h1,h2,fun i v hv=>(hk.2 ⟨b,_,none⟩ hb hKb).trans (h3 i v hv)⟩
theorem RepCs.keep {w w':World} {K K':Nat → Prop} (hk:Keeps K w w') (hK:∀ b,b < w.heap.size → K b → K' b):∀ {t:GT} {cs} {x:PT t},RepCs t w K cs x → RepCs t w' K' cs x
  | .int _,_,_,h=>h
  | .bool,_,_,h=>h
  | .str,_,_,h=>h
  | .sl e,_,_,⟨A,n,c,h0,h1,h2,h3,h4,h5⟩=>⟨A,n,c,h0,h1,h2,h3,h4,h5.keep (fun cs x h=>RepCs.keep hk hK (t:=e) h) hk hK⟩
  | .st f,_,_,h=>RepCs.keep hk hK (t:=f) h
  | .pair a b,_,_,⟨c1,c2,h,h1,h2⟩=>⟨c1,c2,h,RepCs.keep hk hK (t:=a) h1,RepCs.keep hk hK (t:=b) h2⟩
  | .arr n e,_,_,⟨hx,css,h,hl,hr⟩=>⟨hx,css,h,hl,fun j c y hc hy=>RepCs.keep hk hK (t:=e) (hr j c y hc hy)⟩
  | .raw,_,_,h=>h
theorem RepV.keep {w w':World} {K K':Nat → Prop} {t:GT} {v:Value} {x:PT t} (h:RepV t w K v x) (hk:Keeps K w w') (hK:∀ b,b < w.heap.size → K b → K' b):RepV t w' K' v x :=
  let ⟨cs,h1,h2⟩:=h;⟨cs,h1.keep hk hK,h2⟩
theorem Keeps.refl (K:Nat → Prop) (w:World):Keeps K w w:=⟨Nat.le_refl _,fun _ _ _=>rfl⟩
theorem Keeps.below {K:Nat → Prop} {w w':World} (h:Below w.heap.size w w'):Keeps K w w':=⟨h.size,fun p hp _=>h.cell hp⟩
def RepAt (t:GT) (w:World) (K:Nat → Prop) (p:Addr) (x:PT t):Prop :=
  p.spot = none ∧ ∃ cs,RepCs t w K cs x ∧ ∀ (i:Nat) (v:Value),cs[i]? = some v → w.cell? ⟨p.block,p.off + i,none⟩ = some v
@[reducible] def comp:GT → Nat → GT
  | .pair a _,0=>a
  | .pair _ b,k + 1=>comp b k
  | t,_=>t
@[reducible] def a_3:GT → Nat → Nat
  | .pair _ _,0=>0
  | .pair a b,k + 1=>a.sz + a_3 b k
  | _,_=>0
@[reducible] def proj:(t:GT) → (k:Nat) → PT t → PT (comp t k)
  | .pair _ _,0,x=>x.1
  | .pair _ b,k + 1,x=>proj b k x.2
  | .int _,_,x=>x
  | .bool,_,x=>x
  | .str,_,x=>x
  | .sl _,_,x=>x
  | .st _,_,x=>x
  | .arr _ _,_,x=>x
  | .raw,_,x=>x
@[reducible] def upd:(t:GT) → (k:Nat) → PT (comp t k) → PT t → PT t
  | .pair _ _,0,y,x=>(y,x.2)
  | .pair _ b,k + 1,y,x=>(x.1,upd b k y x.2)
  | .int _,_,y,_=>y
  | .bool,_,y,_=>y
  | .str,_,y,_=>y
  | .sl _,_,y,_=>y
  | .st _,_,y,_=>y
  | .arr _ _,_,y,_=>y
  | .raw,_,y,_=>y
theorem RepAt.comp0 {w:World} {K:Nat → Prop}:∀ {t:GT} (k:Nat) {b off:Nat} {x:PT t},RepAt t w K ⟨b,off,none⟩ x → RepAt (comp t k) w K ⟨b,off + a_3 t k,none⟩ (proj t k x)
  | .pair a b',0,b,off,x,⟨_,cs,⟨c1,c2,h,h1,h2⟩,hc⟩=>⟨rfl,c1,h1,fun i v hv=>hc i v (by rw [h,List.getElem?_append_left (List.getElem?_eq_some_iff.1 hv).1];exact hv)⟩
  | .pair a b',k + 1,b,off,x,⟨_,cs,⟨c1,c2,h,h1,h2⟩,hc⟩=>by
    have:=RepAt.comp0 (t:=b') (w:=w) (K:=K) k (b:=b) (off:=off + a.sz) (x:=x.2) ⟨rfl,c2,h2,fun i v hv=>by
      have:=hc (a.sz + i) v (by rw [h,List.getElem?_append_right (by rw [h1.len];omega),h1.len];simpa using hv)
      rw [Nat.add_assoc];exact this⟩
    rw [Nat.add_assoc] at this
    exact this
  | .int _,_,_,_,_,h=>h
  | .bool,_,_,_,_,h=>h
  | .str,_,_,_,_,h=>h
  | .sl _,_,_,_,_,h=>h
  | .st _,_,_,_,_,h=>h
  | .arr _ _,_,_,_,_,h=>h
  | .raw,_,_,_,_,h=>h
theorem RepAt.add {w:World} {K:Nat → Prop} {t:GT} (k:Nat) {p:Addr} {x:PT t} (h:RepAt t w K p x):RepAt (Go.Proofs.Ytfelbalkobcfhaa.comp t k) w K (p.add (a_3 t k)) (proj t k x):=by
  obtain ⟨b,off,spot⟩:=p
  obtain rfl:spot = none:=h.1
  rw [Addr.add_lit]
  exact RepAt.comp0 k h
theorem RepAt.st {w:World} {K:Nat → Prop} {t:GT} {p:Addr} {x:PT t} (h:RepAt (.st t) w K p x):RepAt t w K p x:=h
theorem RepAt.keep {w w':World} {K K':Nat → Prop} {t:GT} {p:Addr} {x:PT t} (h:RepAt t w K p x) (hk:Keeps K w w') (hK:∀ b,b < w.heap.size → K b → K' b)
    (hp:∀ i,i < t.sz → w'.cell? ⟨p.block,p.off + i,none⟩ = w.cell? ⟨p.block,p.off + i,none⟩):RepAt t w' K' p x:=by
  obtain ⟨hs,cs,h1,h2⟩:=h
  exact ⟨hs,cs,h1.keep hk hK,fun i v hv=>(hp i (by rw [← h1.len];exact (List.getElem?_eq_some_iff.1 hv).1)).trans (h2 i v hv)⟩
theorem RowsOf.el {e:GT} {w:World} {K:Nat → Prop} {A:Option Addr} {xs:List (PT e)} (h:RowsOf (RepCs e w K) e.sz w K A xs) {j:Nat} {x:PT e} (hj:xs[j]? = some x) :
    ∃ b off,A = some ⟨b,off,none⟩ ∧ b < w.heap.size ∧ K b ∧ RepAt e w K ⟨b,off + j * e.sz,none⟩ x:=by
  rcases h with rfl | ⟨b,off,rfl,hb,hK,hc⟩
  · simp at hj
  · obtain ⟨cs,h1,_,h3⟩:=hc j x hj
    exact ⟨b,off,rfl,hb,hK,rfl,cs,h1,h3⟩
def tie (P:Program):GT → Bool → TypeId → List Field → Nat → Bool
  | .int k,false,T,_,_=>(match P.underlying T with | some (.int k')=>decide (k = k') | _=>false) && (P.info? T).any fun i=>i.size == 1
  | .bool,false,T,_,_=>(match P.underlying T with | some .bool=>true | _=>false) && (P.info? T).any fun i=>i.size == 1
  | .str,false,T,_,_=>(match P.underlying T with | some .string=>true | _=>false) && (P.info? T).any fun i=>i.size == 1
  | .sl e,false,T,_,_=>(match P.underlying T with | some (.slice E)=>tie P e false E [] 0 | _=>false) && (P.info? T).any fun i=>i.size == 1
  | .st f,false,T,_,_=>(match P.underlying T with | some (.struct fs)=>tie P f true 0 fs.toList 0 | _=>false) && (P.info? T).any fun i=>i.size == f.sz
  | .arr n e,false,T,_,_=>(match P.underlying T with | some (.array n' E)=>n == n' && tie P e false E [] 0 | _=>false) && (P.info? T).any fun i=>i.size == n * e.sz
  | .raw,false,T,_,_=>(match P.underlying T with | some (.slice _)=>true | _=>false) && (P.info? T).any fun i=>i.size == 1
  | .pair a b,true,T,f :: fs,o=>tie P a false f.type [] 0 && f.offset == o && tie P b true T fs (o + a.sz)
  | .pair _ _,_,_,_,_=>false
  | .int k,true,_,[f],o=>f.offset == o && (match P.underlying f.type with | some (.int k')=>decide (k = k') | _=>false) && (P.info? f.type).any fun i=>i.size == 1
  | .bool,true,_,[f],o=>f.offset == o && (match P.underlying f.type with | some .bool=>true | _=>false) && (P.info? f.type).any fun i=>i.size == 1
  | .str,true,_,[f],o=>f.offset == o && (match P.underlying f.type with | some .string=>true | _=>false) && (P.info? f.type).any fun i=>i.size == 1
  | .sl e,true,_,[f],o=>f.offset == o && (match P.underlying f.type with | some (.slice E)=>tie P e false E [] 0 | _=>false) && (P.info? f.type).any fun i=>i.size == 1
  | .st g,true,_,[f],o=>f.offset == o && (match P.underlying f.type with | some (.struct fs)=>tie P g true 0 fs.toList 0 | _=>false) && (P.info? f.type).any fun i=>i.size == g.sz
  | .arr n e,true,_,[f],o=>f.offset == o && (match P.underlying f.type with | some (.array n' E)=>n == n' && tie P e false E [] 0 | _=>false) && (P.info? f.type).any fun i=>i.size == n * e.sz
  | .raw,true,_,[f],o=>f.offset == o && (match P.underlying f.type with | some (.slice _)=>true | _=>false) && (P.info? f.type).any fun i=>i.size == 1
  | _,_,_,_,_=>false
end Go.Proofs.Ytfelbalkobcfhaa
