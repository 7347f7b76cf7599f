/- . -/
import Derived.Test.YtfjpfjnepdhnaaaGreatPZ
namespace Go.Proofs.YtfjpfjnepdhnaaaGreat
open Go Go.Proofs.YtfjpfjnepdhnaaaGreat.R
set_option linter.unusedVariables false
set_option linter.unusedSimpArgs false
section
def nu(f:Nat->Int)(x:Int):Int:=gG (f (x/2).toNat) x
theorem negBy_neg{t x:Int}(ht:0<=t)(hx:0<=x):gG t (cZ x)=cZ (gG t x):=by
 unfold gG cZ
 (repeat' split)<;>omega
theorem mapB_neg{f:Nat->Int}{x:Int}(hf:0<=f (x/2).toNat)(hx:0<=x):nu f (cZ x)=cZ (nu f x):=by
 unfold nu
 rw[show(cZ x/2).toNat=(x/2).toNat by unfold cZ;split<;>omega,negBy_neg hf hx]
theorem mapB_0{f:Nat->Int}(h:f 0=0):nu f 0=0:=by
 show gG (f 0) 0=0
 rw[h];rfl
theorem mapB_1{f:Nat->Int}(h:f 0=0):nu f 1=1:=by
 show gG (f 0) 1=1
 rw[h];rfl
theorem mapB_even{f:Nat->Int}(k:Nat):nu f (2*(k:Int))=f k:=by
 unfold nu gG
 rw[if_pos (by omega),show(2*(k:Int)/2).toNat=k by omega]
theorem mapB_nn{f:Nat->Int}{x:Int}(hf:0<=f (x/2).toNat):0<=nu f x:=by
 unfold nu gG cZ
 (repeat' split)<;>omega
theorem mapB_at{f:Nat->Int}{T:List Int}{x:Int}(h:0<=T.getD (x/2).toNat 0)(hx:0<=x)(hf:0<=f ((T.getD (x/2).toNat 0)/2).toNat){t:Int}(ht:t=nu f (T.getD (x/2).toNat 0)):gG t x=nu f (kB T x):=by
 unfold kB
 generalize T.getD (x/2).toNat 0=y at *
 rw[ht]
 unfold gG
 split
 .rfl
 .rw[mapB_neg hf h]
theorem knownF_mono:∀{a b:LP} {g:Int} {z:Int×Int} {c:Int},cY g a z=some c->a<+:b->cY g b z=some c
 |[],b,g,z,c,h,_=>by cases h
 |x::a,[],g,z,c,h,hp=>by
  obtain⟨r,hr⟩:=hp;cases hr
 |x::a,y::b,g,z,c,h,hp=>by
  obtain⟨r,hr⟩:=hp
  simp only[List.cons_append,List.cons.injEq]at hr
  obtain⟨rfl,hr⟩:=hr
  simp only[cY]at h ⊢
  split at h
  .rename_i e;rw[if_pos e];exact h
  .rename_i e;rw[if_neg e];exact knownF_mono h ⟨r,hr⟩
theorem knownF_at:∀{a:LP} {g:Int} {z:Int×Int} {c:Int},cY g a z=some c->∃k:Nat,a[k]?=some z/\c=g+2*(k:Int)
 |[],g,z,c,h=>by cases h
 |x::a,g,z,c,h=>by
  simp only[cY]at h
  split at h
  .rename_i e;cases h;exact⟨0,by rw[e];rfl,by simp⟩
  .obtain⟨k,h1,h2⟩:=knownF_at h
   exact⟨k+1,h1,by omega⟩
def AndV(g:Int)(ands:LP)(x y z:Int):Prop:=jz x y=some z\/(jz x y=none/\cY g ands (max x y,min x y)=some z)
theorem andS_comm{x y:Int}(hx:0<=x)(hy:0<=y):jz x y=jz y x:=by
 unfold jz cZ
 (repeat' split)<;>first|rfl|(exfalso;omega)|(congr 1;omega)
theorem AndV.comm{g:Int}{ands:LP}{x y z:Int}(hx:0<=x)(hy:0<=y)(h:AndV g ands x y z):AndV g ands y x z:=by
 unfold AndV at *
 rw[andS_comm hy hx,Int.max_comm y x,Int.min_comm y x]
 exact h
theorem AndV.mono{g:Int}{a b:LP}{x y z:Int}(h:AndV g a x y z)(hp:a<+:b):AndV g b x y z:=by
 rcases h with h|⟨h1,h2⟩
 .exact .inl h
 .exact .inr ⟨h1,knownF_mono h2 hp⟩
theorem AndV.andB{g:Int}{ands:LP}{x y z:Int}(h:AndV g ands x y z):jA g ands x y=(z,ands):=by
 unfold Go.Proofs.YtfjpfjnepdhnaaaGreat.jA
 rcases h with h|⟨h1,h2⟩
 .rw[h]
 .rw[h1];simp only;rw[h2]
theorem andB_V(g:Int)(ands:LP)(x y:Int):AndV g (jA g ands x y).2 x y (jA g ands x y).1:=by
 unfold Go.Proofs.YtfjpfjnepdhnaaaGreat.jA
 cases hs:jz x y with
 |some v=>exact .inl hs
 |none=>
  simp only
  cases hk:cY g ands (max x y,min x y) with
  |some c=>exact .inr ⟨hs,hk⟩
  |none=>exact .inr ⟨hs,by rw[AW _ _ _ hk];simp⟩
theorem andS_map{f:Nat->Int}(hf:∀u,0<=f u)(h0:f 0=0){x y v:Int}(hx:0<=x)(hy:0<=y)(h:jz x y=some v):jz (nu f x) (nu f y)=some (nu f v):=by
 have e0:=mapB_0 h0
 have e1:=mapB_1 h0
 have nx:=mapB_nn (x:=x) (hf _)
 have ny:=mapB_nn (x:=y) (hf _)
 have en:=mapB_neg (f:=f) (x:=y) (hf _) hy
 unfold jz at h
 split at h
 .rename_i hc
  cases h
  rw[e0]
  unfold jz
  rw[if_pos]
  rcases hc with rfl|rfl|rfl
  .exact .inl e0
  .exact .inr (.inl e0)
  .exact .inr (.inr en)
 .rename_i hc
  split at h
  .rename_i hc2
   cases h
   rcases hc2 with rfl|rfl
   .rw[e1]
    generalize nu f y=w at *
    unfold jz cZ
    (repeat' split)<;>first|rfl|(congr 1;omega)
   .generalize nu f x=w at *
    unfold jz cZ
    (repeat' split)<;>first|rfl|(congr 1;omega)
  .split at h
   .rename_i hc3
    cases h
    subst hc3
    rw[e1]
    generalize nu f x=w at *
    unfold jz cZ
    (repeat' split)<;>first|rfl|(congr 1;omega)
   .cases h
section
variable {gate N:Nat} {As:LP} {g1 g2:List Int}
structure De(N gate:Nat)(g1 g2:List Int):Prop where
 one:∀v,v<N->0<=g1.getD v 0->1<=v/\(g1.getD v 0=0\/g1.getD v 0=1)/\g2.getD v 0=g1.getD v 0
 two:∀v,v<N->gate<=v->g2.getD v 0<0
 zero:0<N->g1.getD 0 0<0/\g2.getD 0 0<0
theorem tol_len(n:Nat):(tW gate As g1 n).length=n:=dZ _ _ _ _ _
theorem tol_zero(hM:De N gate g1 g2)(hg:1<=gate)(hN:0<N){n:Nat}(hn:0<n):(tW gate As g1 n).getD 0 0=0/\(tW gate As g2 n).getD 0 0=0:=by
 obtain⟨z1,z2⟩:=hM.zero hN
 have key:∀g:List Int,g.getD 0 0<0->(tW gate As g n).getD 0 0=0:=fun g hz=>by
  rw[BV (sZ (show 1<=n by omega)).2 (by rw[dZ];omega)]
  show(pQ _ gate As g ([],[])).1.getD 0 0=0
  unfold pQ
  rw[if_neg (by show ¬0<=g.getD 0 0;omega),if_pos (by show 0<gate;omega)]
  rfl
 exact⟨key g1 z1,key g2 z2⟩
theorem build_hom(hK1:Kc N gate As g1)(hK2:Kc N gate As g2)(hM:De N gate g1 g2):∀n,n<=N->∃f:Nat->Int,f 0=0/\(∀u,0<=f u)/\(∀u,u<gate->u<N->f u=(tW gate As g2 N).getD u 0)/\(∀v,v<n->(tW gate As g2 n).getD v 0=nu f ((tW gate As g1 n).getD v 0)) /\
  ∀(k:Nat) (p:Int×Int),(bld gate As g1 n)[k]?=some p->AndV (2*(gate:Int)) (bld gate As g2 n) (nu f p.1) (nu f p.2) (f (gate+k)):=by
 have hgt:=hK1.pos
 have hNg:=hK1.len
 intro n
 induction n with
 |zero=>
  intro _
  refine⟨fun u=>if u<gate then(tW gate As g2 N).getD u 0 else 0,?_,fun u=>?_,fun u h1 h2=>if_pos h1,fun v hv=>by omega,fun k p hk=>by simp[bld,dC]at hk⟩
  .show(if 0<gate then(tW gate As g2 N).getD 0 0 else 0)=0
   rw[if_pos (by omega),(tol_zero hM hgt (by omega) (by omega)).2]
  .show 0<=(if u<gate then(tW gate As g2 N).getD u 0 else 0)
   split
   .exact((tL hK2 N (Nat.le_refl _)).1 u (by omega)).1
   .omega
 |succ n ih=>
  intro hn
  obtain⟨f,f0,fn,flow,fv,fa⟩:=ih (by omega)
  obtain⟨a1,a2⟩:=tL hK1 n (by omega)
  obtain⟨b1,b2⟩:=tL hK2 n (by omega)
  have l1:(tW gate As g1 n).length=n:=dZ _ _ _ _ _
  have l2:(tW gate As g2 n).length=n:=dZ _ _ _ _ _
  have s1:dC (2*(gate:Int)) gate As g1 (n+1)=pQ (2*(gate:Int)) gate As g1 (dC (2*(gate:Int)) gate As g1 n):=rfl
  have s2:dC (2*(gate:Int)) gate As g2 (n+1)=pQ (2*(gate:Int)) gate As g2 (dC (2*(gate:Int)) gate As g2 n):=rfl
  have gd:∀(t:List Int) (x:Int) (v:Nat),t.length=n->(t++[x]).getD v 0=if v=n then x else t.getD v 0:=fun t x v ht=>by
   simp only[List.getD_eq_getElem?_getD]
   by_cases hv:v=n
   .rw[if_pos hv,List.getElem?_append_right (by omega),show v-t.length=0 by omega];rfl
   .rw[if_neg hv]
    by_cases hlt:v<n
    .rw[List.getElem?_append_left (by omega)]
    .rw[List.getElem?_eq_none (by simp;omega),List.getElem?_eq_none (by omega)]
  have hTn:(tW gate As g2 N).getD n 0=(tW gate As g2 (n+1)).getD n 0:=BV (sZ hn).2 (by rw[dZ];omega)
  have stay:∀(x y:Int),(dC (2*(gate:Int)) gate As g1 (n+1))=(tW gate As g1 n++[x],bld gate As g1 n)->(dC (2*(gate:Int)) gate As g2 (n+1))=(tW gate As g2 n++[y],bld gate As g2 n)->y=nu f x ->
    ∃f:Nat->Int,f 0=0/\(∀u,0<=f u)/\(∀u,u<gate->u<N->f u=(tW gate As g2 N).getD u 0)/\(∀v,v<n+1->(tW gate As g2 (n+1)).getD v 0=nu f ((tW gate As g1 (n+1)).getD v 0)) /\
    ∀(k:Nat) (p:Int×Int),(bld gate As g1 (n+1))[k]?=some p->AndV (2*(gate:Int)) (bld gate As g2 (n+1)) (nu f p.1) (nu f p.2) (f (gate+k)):=by
   intro x y e1 e2 hxy
   refine⟨f,f0,fn,flow,fun v hv=>?_,?_⟩
   .unfold tW at *
    rw[e1,e2,gd _ _ _ l1,gd _ _ _ l2]
    split
    .exact hxy
    .exact fv v (by omega)
   .unfold bld at *
    rw[e1,e2]
    exact fa
  by_cases h1:0<=g1.getD n 0
  .-- given in both
   obtain⟨m1,m2,m3⟩:=hM.one n (by omega) h1
   obtain⟨z1,z2⟩:=tol_zero (As:=As) hM hgt (by omega) (n:=n) (by omega)
   have at01:∀(t:List Int) (x:Int),t.getD 0 0=0->(x=0\/x=1)->kB t x=x:=fun t x ht hx=>by
    unfold kB
    rcases hx with rfl|rfl
    .show gG (t.getD 0 0) 0=0;rw[ht];rfl
    .show gG (t.getD 0 0) 1=1;rw[ht];rfl
   refine stay (g1.getD n 0) (g1.getD n 0) ?_ ?_ ?_
   .rw[s1];unfold pQ
    rw[l1,if_pos h1,at01 _ _ z1 m2]
   .rw[s2];unfold pQ
    rw[l2,m3,if_pos h1,at01 _ _ z2 m2]
   .rcases m2 with e|e
    .rw[e,mapB_0 f0]
    .rw[e,mapB_1 f0]
  .by_cases h2:n<gate
   .-- an input or a latch
    have e1:dC (2*(gate:Int)) gate As g1 (n+1)=(tW gate As g1 n++[2*(n:Int)],bld gate As g1 n):=by
     rw[s1];unfold pQ
     rw[l1,if_neg h1,if_pos h2]
    obtain⟨y,e2⟩:∃y,dC (2*(gate:Int)) gate As g2 (n+1)=(tW gate As g2 n++[y],bld gate As g2 n):=by
     rw[s2];unfold pQ
     rw[l2]
     by_cases h3:0<=g2.getD n 0
     .rw[if_pos h3];exact⟨_,rfl⟩
     .rw[if_neg h3,if_pos h2];exact⟨_,rfl⟩
    refine stay _ _ e1 e2 ?_
    rw[mapB_even,flow n h2 (by omega),hTn]
    unfold tW
    rw[e2,gd _ _ _ l2,if_pos rfl]
   .-- a gate
    have h2':=hM.two n (by omega) (by omega)
    obtain⟨p,hp⟩:∃p,As[n-gate]?=some p:=⟨_,List.getElem?_eq_getElem (by omega)⟩
    have hpd:As.getD (n-gate) (0,0)=p:=by rw[List.getD_eq_getElem?_getD,hp];rfl
    obtain⟨q1,q2,q3⟩:=hK1.gates _ p hp
    have e1:dC (2*(gate:Int)) gate As g1 (n+1)=(tW gate As g1 n++[(jA (2*(gate:Int)) (bld gate As g1 n) (kB (tW gate As g1 n) p.1) (kB (tW gate As g1 n) p.2)).1],(jA (2*(gate:Int)) (bld gate As g1 n) (kB (tW gate As g1 n) p.1) (kB (tW gate As g1 n) p.2)).2):=by
     rw[s1];unfold pQ
     rw[l1,if_neg h1,if_neg h2,hpd]
    have e2:dC (2*(gate:Int)) gate As g2 (n+1)=(tW gate As g2 n++[(jA (2*(gate:Int)) (bld gate As g2 n) (kB (tW gate As g2 n) p.1) (kB (tW gate As g2 n) p.2)).1],(jA (2*(gate:Int)) (bld gate As g2 n) (kB (tW gate As g2 n) p.1) (kB (tW gate As g2 n) p.2)).2):=by
     rw[s2];unfold pQ
     rw[l2,if_neg (by omega),if_neg h2,hpd]
    have hlit:∀x:Int,0<=x->x/2<(n:Int)->kB (tW gate As g2 n) x=nu f (kB (tW gate As g1 n) x):=fun x hx0 hx1=>by
     have hv:=fv (x/2).toNat (by omega)
     have ha:=(a1 (x/2).toNat (by omega)).1
     exact mapB_at ha hx0 (fn _) hv
    have hnn:∀x:Int,0<=x->x/2<(n:Int)->0<=kB (tW gate As g1 n) x/\(kB (tW gate As g1 n) x)/2<((gate+(bld gate As g1 n).length:Nat):Int):=fun x hx0 hx1=>by
     have ha:=a1 (x/2).toNat (by omega)
     unfold kB gG cZ
     (repeat' split)<;>omega
    have x1:=hlit p.1 (by omega) (by omega)
    have x2:=hlit p.2 (by omega) (by omega)
    have y1:=hnn p.1 (by omega) (by omega)
    have y2:=hnn p.2 (by omega) (by omega)
    rw[x1,x2]at e2
    generalize kB (tW gate As g1 n) p.1=x at *
    generalize kB (tW gate As g1 n) p.2=y at *
    cases hs:jz x y with
    |some v=>
     have ha1:jA (2*(gate:Int)) (bld gate As g1 n) x y=(v,bld gate As g1 n):=AndV.andB (.inl hs)
     have ha2:jA (2*(gate:Int)) (bld gate As g2 n) (nu f x) (nu f y)=(nu f v,bld gate As g2 n):=AndV.andB (.inl (andS_map fn f0 y1.1 y2.1 hs))
     rw[ha1]at e1;rw[ha2]at e2
     exact stay _ _ e1 e2 rfl
    |none=>
     cases hk:cY (2*(gate:Int)) (bld gate As g1 n) (max x y,min x y) with
     |some c=>
      have ha1:jA (2*(gate:Int)) (bld gate As g1 n) x y=(c,bld gate As g1 n):=AndV.andB (.inr ⟨hs,hk⟩)
      obtain⟨k,k1,k2⟩:=knownF_at hk
      have hv:=fa k _ k1
      have hv':AndV (2*(gate:Int)) (bld gate As g2 n) (nu f x) (nu f y) (f (gate+k)):=by
       rcases Int.le_total x y with hxy|hxy
       .rw[show max x y=y from Int.max_eq_right hxy,show min x y=x from Int.min_eq_left hxy]at hv
        exact hv.comm (mapB_nn (fn _)) (mapB_nn (fn _))
       .rw[show max x y=x from Int.max_eq_left hxy,show min x y=y from Int.min_eq_right hxy]at hv
        exact hv
      have ha2:=hv'.andB
      rw[ha1]at e1;rw[ha2]at e2
      refine stay _ _ e1 e2 ?_
      rw[k2,show 2*(gate:Int)+2*(k:Int)=2*((gate+k:Nat):Int) by omega,mapB_even]
     |none=>
      have ha1:jA (2*(gate:Int)) (bld gate As g1 n) x y=(2*(gate:Int)+2*((bld gate As g1 n).length:Int),bld gate As g1 n++[(max x y,min x y)]):=by
       unfold jA;rw[hs];simp only;rw[hk]
      have hV:=andB_V (2*(gate:Int)) (bld gate As g2 n) (nu f x) (nu f y)
      have hpre:bld gate As g2 n<+:(jA (2*(gate:Int)) (bld gate As g2 n) (nu f x) (nu f y)).2:=by
       unfold jA
       cases jz (nu f x) (nu f y) with
       |some v=>exact List.prefix_refl _
       |none=>
        simp only
        cases cY (2*(gate:Int)) (bld gate As g2 n) (max (nu f x) (nu f y),min (nu f x) (nu f y)) with
        |some c=>exact List.prefix_refl _
        |none=>exact List.prefix_append _ _
      rw[ha1]at e1
      have hznn:0<=(jA (2*(gate:Int)) (bld gate As g2 n) (nu f x) (nu f y)).1:=by
       have:=((tL hK2 (n+1) hn).1 n (by omega)).1
       unfold tW at this
       rw[e2]at this
       simp only at this
       rw[gd _ _ _ l2,if_pos rfl]at this
       exact this
      generalize (jA (2*(gate:Int)) (bld gate As g2 n) (nu f x) (nu f y)).1=z at *
      generalize (jA (2*(gate:Int)) (bld gate As g2 n) (nu f x) (nu f y)).2=B2 at *
      have same:∀u:Int,0<=u->u/2<((gate+(bld gate As g1 n).length:Nat):Int)->nu (fun u=>if u=gate+(bld gate As g1 n).length then z else f u) u=nu f u:=fun u hu0 hu1=>by
       unfold nu
       dsimp only
       rw[if_neg (by omega)]
      refine⟨fun u=>if u=gate+(bld gate As g1 n).length then z else f u,?_,fun u=>?_,fun u hu1 hu2=>?_,fun v hv=>?_,fun k p' hk'=>?_⟩
      .show(if 0=gate+(bld gate As g1 n).length then z else f 0)=0
       rw[if_neg (by omega),f0]
      .show 0<=(if u=gate+(bld gate As g1 n).length then z else f u)
       split
       .exact hznn
       .exact fn u
      .show(if u=gate+(bld gate As g1 n).length then z else f u)=_
       rw[if_neg (by omega),flow u hu1 hu2]
      .unfold tW at *
       rw[e1,e2]
       simp only
       rw[gd _ _ _ l1,gd _ _ _ l2]
       by_cases hvn:v=n
       .rw[if_pos hvn,if_pos hvn,show 2*(gate:Int)+2*((bld gate As g1 n).length:Int)=2*((gate+(bld gate As g1 n).length:Nat):Int) by omega,mapB_even]
        exact(if_pos rfl).symm
       .rw[if_neg hvn,if_neg hvn,same _ (a1 v (by omega)).1 (a1 v (by omega)).2]
        exact fv v (by omega)
      .have e1':bld gate As g1 (n+1)=bld gate As g1 n++[(max x y,min x y)]:=by unfold bld;rw[e1]
       have e2':bld gate As g2 (n+1)=B2:=by unfold bld;rw[e2]
       rw[e1']at hk'
       rw[e2']
       by_cases hkl:k<(bld gate As g1 n).length
       .rw[List.getElem?_append_left hkl]at hk'
        obtain⟨r1,r2,r3⟩:=a2 k p' hk'
        rw[same p'.1 (by omega) (by omega),same p'.2 (by omega) (by omega)]
        dsimp only
        rw[if_neg (by omega)]
        exact(fa k p' hk').mono hpre
       .have hkE:k=(bld gate As g1 n).length:=by
         have:=(List.getElem?_eq_some_iff.1 hk').1
         rw[List.length_append,List.length_singleton]at this
         omega
        subst hkE
        rw[List.getElem?_append_right (Nat.le_refl _),Nat.sub_self]at hk'
        cases hk'
        dsimp only
        rw[if_pos rfl]
        rcases Int.le_total x y with hxy|hxy
        .rw[show max x y=y from Int.max_eq_right hxy,show min x y=x from Int.min_eq_left hxy,same _ y1.1 y1.2,same _ y2.1 y2.2]
         exact hV.comm (mapB_nn (fn _)) (mapB_nn (fn _))
        .rw[show max x y=x from Int.max_eq_left hxy,show min x y=y from Int.min_eq_right hxy,same _ y1.1 y1.2,same _ y2.1 y2.2]
         exact hV
theorem build_const(hK1:Kc N gate As g1)(hK2:Kc N gate As g2)(hM:De N gate g1 g2){x:Int}(hx0:0<=x)(hx1:x/2<(N:Int))(hc:kB (tW gate As g1 N) x=0\/kB (tW gate As g1 N) x=1):
  kB (tW gate As g2 N) x=kB (tW gate As g1 N) x:=by
 obtain⟨f,f0,fn,_,fv,_⟩:=build_hom hK1 hK2 hM N (Nat.le_refl _)
 have ha:=(tL hK1 N (Nat.le_refl _)).1 (x/2).toNat (by omega)
 have hv:=fv (x/2).toNat (by omega)
 have e:kB (tW gate As g2 N) x=nu f (kB (tW gate As g1 N) x):=mapB_at ha.1 hx0 (fn _) hv
 rw[e]
 rcases hc with h|h
 .rw[h,mapB_0 f0]
 .rw[h,mapB_1 f0]
end
end
section
section
variable {I:Int} {Ls As:List (Int×Int)} {Bs Cs:List Int}
theorem askG_eq(h:cG I Ls As Bs Cs)(hc:aP I Ls As Bs Cs=0){g:List Int}(hg:nZ I Ls As g):askG I Ls As Bs Cs g=some (wB I Ls As Bs Cs g).1:=by
 unfold askG
 rw[if_pos (lP h hc hg).1]
theorem con_eq(h:cG I Ls As Bs Cs)(hc:aP I Ls As Bs Cs=0):
  constants_find I Ls As Bs Cs=endG (cndF (askG I Ls As Bs Cs) I Ls ((size I Ls As).toNat+1) (Ls.length+2) (iniC Ls Ls.length)):=by
 obtain⟨k1,⟨k2,k3,k4,k5⟩,_⟩:=aN hc
 have hs1:0<=size I Ls As/\size I Ls As<=1000:=by unfold size;omega
 have hv:=fj h
 rw[if_pos hc]at hv
 have hask:bt E (DM E) 48 [bU I Ls As Bs Cs] [.d (.int .i64),.d (.int .i64)]=some (size I Ls As,(0:Int)):=(tQ (by kernel_rfl)).trans hv
 have hmul:bt E (DM E) 69 [.d (.int .u64) (1:Int),.d (.int .u64) (size I Ls As+1)] [.d (.int .u64),.d (.int .u64)]=some ((0:Int),size I Ls As+1):=by
  have:=(tQ (by kernel_rfl)).trans (Pq (n:=(size I Ls As).toNat+1) (by omega))
  rw[show(((size I Ls As).toNat+1:Nat):Int)=size I Ls As+1 by omega]at this
  exact this
 have hB:conB I (size I Ls As) Ls=true:=by
  unfold conB
  simp only[Bool.and_eq_true,decide_eq_true_eq]
  unfold size at *
  omega
 unfold constants_find
 rw[F5 (k:=conHK) (by kernel_rfl)]
 show(match bt E (DM E) 48 [bU I Ls As Bs Cs] [.d (.int .i64),.d (.int .i64)]with
  |some r=>if(show Int×Int from r).2≠0 then some ([],sK,(show Int×Int from r).2)
   else if conB I (show Int×Int from r).1 Ls=true/\(show Int×Int from r).1=I+(List.length (α:=Int×Int) Ls:Int)+(List.length (α:=Int×Int) As:Int) then
    match bt E (DM E) 69 [.d (.int .u64) (1:Int),.d (.int .u64) ((show Int×Int from r).1+1)] [.d (.int .u64),.d (.int .u64)]with
    |some m=>if(show Int×Int from m)=((0:Int),(show Int×Int from r).1+1) then endG (cndF (askG I Ls As Bs Cs) I Ls ((show Int×Int from r).1.toNat+1) (List.length (α:=Int×Int) Ls+2) (iniC Ls (List.length (α:=Int×Int) Ls))) else none
    |none=>none
   else none
  |none=>none)=_
 rw[hask]
 refine(if_neg (by simp)).trans ((if_pos ⟨hB,rfl⟩).trans ?_)
 show(match bt E (DM E) 69 [.d (.int .u64) (1:Int),.d (.int .u64) (size I Ls As+1)] [.d (.int .u64),.d (.int .u64)]with
    |some m=>if(show Int×Int from m)=((0:Int),size I Ls As+1) then endG (cndF (askG I Ls As Bs Cs) I Ls ((size I Ls As).toNat+1) (List.length (α:=Int×Int) Ls+2) (iniC Ls (List.length (α:=Int×Int) Ls))) else none
    |none=>none)=_
 rw[hmul]
 exact if_pos rfl
def rstL(Ls:LP)(k:Int):Prop:=∃(j:Nat) (p:Int×Int),k=(j:Int)/\Ls[j]?=some p/\(p.2=0\/p.2=1)
theorem iniC_rst(hc:aP I Ls As Bs Cs=0):∀q,q<=Ls.length->∀k∈iniC Ls q,rstL Ls k
 |0,_,k,hk=>by cases hk
 |q+1,hq,k,hk=>by
  obtain⟨_,_,_,_,c3,_⟩:=aN hc
  obtain⟨p,hp⟩:∃p,Ls[q]?=some p:=⟨_,List.getElem?_eq_getElem (by omega)⟩
  simp only[iniC,hp]at hk
  split at hk
  .exact iniC_rst hc q (by omega) k hk
  .rename_i h2
   rcases List.mem_append.1 hk with h|h
   .exact iniC_rst hc q (by omega) k h
   .have:=(c3 p (List.mem_of_getElem? hp)).2
    exact⟨q,p,by simpa using h,hp,by omega⟩
theorem gv_fold:∀(m:List Int) (g:List Int),(∀k∈m,rstL Ls k)->0<=I ->
  (∀(v:Nat) (x:Int),(m.foldl (gvS I Ls) g)[v]?=some x->g[v]?=some x\/∃(j:Nat) (p:Int×Int),(j:Int)∈m/\Ls[j]?=some p/\(v:Int)=I+1+(j:Int)/\x=p.2) /\
  ∀(j:Nat) (p:Int×Int),((j:Int)∈m\/g[(I+1+(j:Int)).toNat]?=some p.2)->Ls[j]?=some p->(I+1+(j:Int)).toNat<g.length->(m.foldl (gvS I Ls) g)[(I+1+(j:Int)).toNat]?=some p.2
 |[],g,_,_=>⟨fun v x hx=>.inl hx,fun j p h _ _=>by
   rcases h with h|h
   .cases h
   .exact h⟩
 |k::m,g,hm,h0=>by
  obtain⟨j0,p0,rfl,hp0,hr0⟩:=hm k (List.mem_cons_self ..)
  obtain⟨i1,i2⟩:=gv_fold m (gvS I Ls g (j0:Int)) (fun k' hk'=>hm k' (List.mem_cons_of_mem _ hk')) h0
  have hgd:(Ls.getD ((j0:Int)).toNat (0,0)).2=p0.2:=by rw[Int.toNat_natCast,List.getD_eq_getElem?_getD,hp0];rfl
  have hgv:gvS I Ls g (j0:Int)=g.set (I+1+(j0:Int)).toNat p0.2:=by unfold gvS;rw[hgd]
  rw[List.foldl_cons]
  refine⟨fun v x hx=>?_,fun j p hj hp hlt=>?_⟩
  .rcases i1 v x hx with h|⟨j,p,h1,h2⟩
   .rw[hgv,List.getElem?_set]at h
    split at h
    .rename_i he
     split at h
     .cases h
      exact .inr ⟨j0,p0,List.mem_cons_self ..,hp0,by omega,rfl⟩
     .cases h
    .exact .inl h
   .exact .inr ⟨j,p,List.mem_cons_of_mem _ h1,h2⟩
  .refine i2 j p ?_ hp (by rw[hgv,List.length_set];exact hlt)
   by_cases he:j=j0
   .subst he
    rw[hp]at hp0
    cases hp0
    refine .inr ?_
    rw[hgv,List.getElem?_set,if_pos rfl,if_pos hlt]
   .rcases hj with hj|hj
    .rcases List.mem_cons.1 hj with h|h
     .omega
     .exact .inl h
    .refine .inr ?_
     rw[hgv,List.getElem?_set,if_neg (by omega)]
     exact hj
theorem gvK_ok(hc:aP I Ls As Bs Cs=0){l:List Int}(hl:∀k∈l,rstL Ls k):nZ I Ls As (gvK I Ls ((size I Ls As).toNat+1) l l.length) /\
  (∀(v:Nat) (x:Int),(gvK I Ls ((size I Ls As).toNat+1) l l.length)[v]?=some x->0<=x->∃(j:Nat) (p:Int×Int),(j:Int)∈l/\Ls[j]?=some p/\(v:Int)=I+1+(j:Int)/\x=p.2):=by
 obtain⟨k1,⟨k2,k3,k4,k5⟩,_⟩:=aN hc
 have hs1:0<=size I Ls As:=by unfold size;omega
 have hlen:=gvK_len I Ls ((size I Ls As).toNat+1) l l.length
 have key:∀(v:Nat) (x:Int),(gvK I Ls ((size I Ls As).toNat+1) l l.length)[v]?=some x->x = -1\/∃(j:Nat) (p:Int×Int),(j:Int)∈l/\Ls[j]?=some p/\(v:Int)=I+1+(j:Int)/\x=p.2:=fun v x hx=>by
  unfold gvK at hx
  rw[List.take_length]at hx
  rcases(gv_fold l _ hl k1).1 v x hx with h|h
  .rw[List.getElem?_replicate]at h
   split at h
   .cases h;exact .inl rfl
   .cases h
  .exact .inr h
 refine⟨⟨by omega,fun v x hx=>?_⟩,fun v x hx h0=>?_⟩
 .rcases key v x hx with rfl|⟨j,p,h1,h2,h3,rfl⟩
  .omega
  .obtain⟨j',p',e,h4,h5⟩:=hl _ h1
   have:j'=j:=by omega
   subst this
   rw[h2]at h4;cases h4
   omega
 .rcases key v x hx with rfl|h
  .omega
  .exact h
theorem keep_in{L Ls:LP}{l:List Int}{k:Int}(h:k∈keepF L Ls l):k∈l/\(L.getD k.toNat (0,0)).1=(Ls.getD k.toNat (0,0)).2:=by
 unfold keepF at h
 obtain⟨h1,h2⟩:=List.mem_filter.1 h
 refine⟨h1,?_⟩
 unfold goB at h2
 simpa using h2
theorem cnd_spec(h:cG I Ls As Bs Cs)(hc:aP I Ls As Bs Cs=0):∀(k:Nat) (l:List Int),(∀x∈l,rstL Ls x)->l.length<k ->
  ∃la x,cndF (askG I Ls As Bs Cs) I Ls ((size I Ls As).toNat+1) k l=some (la,x)/\(∀x∈la,rstL Ls x)/\la.length<=l.length /\
   ∀k∈la,kB (bTq I Ls As (gvK I Ls ((size I Ls As).toNat+1) la la.length)) (Ls.getD k.toNat (0,0)).1=(Ls.getD k.toNat (0,0)).2
 |0,l,_,hk=>by omega
 |k+1,l,hl,hk=>by
  obtain⟨k1,⟨k2,k3,k4,k5⟩,_⟩:=aN hc
  obtain⟨hg,_⟩:=gvK_ok hc hl
  have hx:=askG_eq h hc hg
  have hlen:(wB I Ls As Bs Cs (gvK I Ls ((size I Ls As).toNat+1) l l.length)).1.2.1.length=Ls.length:=List.length_map ..
  simp only[cndF,hx,if_pos hlen]
  by_cases he:(keepF (wB I Ls As Bs Cs (gvK I Ls ((size I Ls As).toNat+1) l l.length)).1.2.1 Ls l).length=l.length
  .rw[if_pos he]
   have hE:keepF (wB I Ls As Bs Cs (gvK I Ls ((size I Ls As).toNat+1) l l.length)).1.2.1 Ls l=l:=List.filter_sublist.eq_of_length he
   rw[hE]
   refine⟨_,_,rfl,hl,Nat.le_refl _,fun x hx=>?_⟩
   have hx':x∈keepF (wB I Ls As Bs Cs (gvK I Ls ((size I Ls As).toNat+1) l l.length)).1.2.1 Ls l:=by rw[hE];exact hx
   have h2:=(keep_in hx').2
   obtain⟨j,p,rfl,hp,_⟩:=hl x hx
   rw[<-h2]
   rw[Int.toNat_natCast]
   show _=((mu I Ls As (gvK I Ls ((size I Ls As).toNat+1) l l.length)).getD j (0,0)).1
   rw[List.getD_eq_getElem?_getD,List.getD_eq_getElem?_getD,List.getElem?_map,hp]
   rfl
  .rw[if_neg he]
   have hlt:(keepF (wB I Ls As Bs Cs (gvK I Ls ((size I Ls As).toNat+1) l l.length)).1.2.1 Ls l).length<l.length:=by
    have:(keepF (wB I Ls As Bs Cs (gvK I Ls ((size I Ls As).toNat+1) l l.length)).1.2.1 Ls l).length<=l.length:=List.length_filter_le _ _
    omega
   have hks:∀x∈keepF (wB I Ls As Bs Cs (gvK I Ls ((size I Ls As).toNat+1) l l.length)).1.2.1 Ls l,rstL Ls x:=fun x hx=>hl x (keep_in hx).1
   generalize keepF (wB I Ls As Bs Cs (gvK I Ls ((size I Ls As).toNat+1) l l.length)).1.2.1 Ls l=l' at hlt hks ⊢
   obtain⟨la,x,g1,g2,g3,g4⟩:=cnd_spec h hc k l' hks (by omega)
   exact⟨la,x,g1,g2,by omega,g4⟩
theorem con_spec(h:cG I Ls As Bs Cs)(hc:aP I Ls As Bs Cs=0):∃la,constants_Stay I Ls As Bs Cs=some (la,0)/\(∀x∈la,rstL Ls x)/\la.length<=Ls.length /\
  ∀k∈la,kB (bTq I Ls As (gvK I Ls ((size I Ls As).toNat+1) la la.length)) (Ls.getD k.toNat (0,0)).1=(Ls.getD k.toNat (0,0)).2:=by
 have hi:=iniC_len Ls Ls.length
 obtain⟨la,x,h1,h2,h4,h3⟩:=cnd_spec h hc (Ls.length+2) (iniC Ls Ls.length) (iniC_rst hc Ls.length (Nat.le_refl _)) (by omega)
 refine⟨la,?_,h2,?_,h3⟩
 .rw[constants_Stay.eq,con_eq h hc,h1]
  rfl
 .omega
end
end
section
def trQ(Q:Int->Int->Option (Bool×Int))(h m:Int):Bool:=decide (Q m h=some (true,0))
def stayC(Q:Int->Int->Option (Bool×Int))(c:List Int):List Int:=match c with
 |[]=>[]
 |h::ms=>h::ms.filter (trQ Q h)
def leftC(Q:Int->Int->Option (Bool×Int))(c:List Int):List Int:=match c with
 |[]=>[]
 |h::ms=>ms.filter fun m=>!trQ Q h m
theorem spl_form{q:Int->Option (Bool×Int)}:∀(ms a0 b0 a b:List Int),ms.foldl (nX q) (some (.inr (a0,b0)))=some (.inr (a,b)) ->
  a=a0++ms.filter (fun m=>decide (q m=some (true,0)))/\b=b0++ms.filter (fun m=>!decide (q m=some (true,0)))
 |[],a0,b0,a,b,h=>by
  simp only[List.foldl_nil,Option.some.injEq,Sum.inr.injEq,Prod.mk.injEq]at h
  obtain⟨rfl,rfl⟩:=h
  simp
 |m::ms,a0,b0,a,b,h=>by
  rw[List.foldl_cons]at h
  cases hq:q m with
  |none=>
   simp only[nX,hq]at h
   rw[(yu ms).2]at h
   cases h
  |some te=>
   obtain⟨t,e⟩:=te
   simp only[nX,hq]at h
   by_cases he:e=0
   .subst he
    rw[if_pos rfl]at h
    cases t with
    |true=>
     rw[if_pos rfl]at h
     obtain⟨h1,h2⟩:=spl_form ms _ _ _ _ h
     rw[h1,h2]
     simp[List.filter_cons,hq]
    |false=>
     rw[if_neg (by simp)]at h
     obtain⟨h1,h2⟩:=spl_form ms _ _ _ _ h
     rw[h1,h2]
     simp[List.filter_cons,hq]
   .rw[if_neg he,(yu ms).1]at h
    cases h
theorem rnd_form{Q:Int->Int->Option (Bool×Int)}:∀(l S0 L0 S L:LL),l.foldl (l6 Q) (some (.inr (S0,L0)))=some (.inr (S,L)) ->
  S=S0++l.map (stayC Q)/\L=L0++(l.map (leftC Q)).filter (fun c=>!c.isEmpty)
 |[],S0,L0,S,L,h=>by
  simp only[List.foldl_nil,Option.some.injEq,Sum.inr.injEq,Prod.mk.injEq]at h
  obtain⟨rfl,rfl⟩:=h
  simp
 |c::l,S0,L0,S,L,h=>by
  rw[List.foldl_cons]at h
  match c with
  |[]=>
   simp only[l6]at h
   rw[(yw l).2]at h
   cases h
  |hd::ms=>
   cases hs:oY (fun m=>Q m hd) hd ms with
   |none=>
    simp only[l6,hs]at h
    rw[(yw l).2]at h
    cases h
   |some r=>
    cases r with
    |inl e=>
     simp only[l6,hs]at h
     rw[(yw l).1]at h
     cases h
    |inr ab=>
     obtain⟨a,b⟩:=ab
     simp only[l6,hs]at h
     obtain⟨g1,g2⟩:=spl_form ms _ _ _ _ hs
     obtain⟨h1,h2⟩:=rnd_form l _ _ _ _ h
     rw[h1,h2]
     have e1:stayC Q (hd::ms)=a:=by rw[g1];rfl
     have e2:leftC Q (hd::ms)=b:=by rw[g2];rfl
     refine⟨by rw[List.map_cons,e1];simp,?_⟩
     rw[List.map_cons,e2]
     by_cases hb:b=[]
     .rw[if_pos hb,hb];simp
     .rw[if_neg hb,List.filter_cons,if_pos (by simpa using hb)];simp
theorem flat_ne:∀(l:LL),(l.filter (fun c=>!c.isEmpty)).flatten=l.flatten
 |[]=>rfl
 |c::l=>by
  rw[List.filter_cons]
  cases c with
  |nil=>simpa using flat_ne l
  |cons a c=>simp[flat_ne l]
theorem stay_perm{Q:Int->Int->Option (Bool×Int)}(c:List Int):(stayC Q c++leftC Q c).Perm c:=by
 match c with
 |[]=>exact .refl _
 |h::ms=>exact(List.filter_append_perm (trQ Q h) ms).cons h
theorem rnd_perm{Q:Int->Int->Option (Bool×Int)}:∀(l:LL),((l.map (stayC Q)).flatten++(l.map (leftC Q)).flatten).Perm l.flatten
 |[]=>.refl _
 |c::l=>by
  simp only[List.map_cons,List.flatten_cons]
  have h1:=stay_perm (Q:=Q) c
  have h2:=rnd_perm (Q:=Q) l
  have h3:(stayC Q c++(l.map (stayC Q)).flatten++(leftC Q c++(l.map (leftC Q)).flatten)).Perm ((stayC Q c++leftC Q c)++((l.map (stayC Q)).flatten++(l.map (leftC Q)).flatten)):=by
   simp only[List.append_assoc]
   refine List.Perm.append_left _ ?_
   rw[<-List.append_assoc,<-List.append_assoc]
   exact List.Perm.append_right _ List.perm_append_comm
  exact h3.trans (h1.append h2)
def asgC(c:List Int):List (Nat×Int):=match c with
 |[]=>[]
 |h::ms=>ms.map fun m=>((m/2).toNat,gG h m)
def setP(g:List Int)(p:Nat×Int):List Int:=g.set p.1 p.2
theorem givS_asg(g:List Int)(c:List Int):xV g c=(asgC c).foldl setP g:=by
 match c with
 |[]=>rfl
 |h::ms=>
  show ms.foldl (pJ h) g=(ms.map fun m=>((m/2).toNat,gG h m)).foldl setP g
  rw[List.foldl_map]
  rfl
theorem givL_asg(n:Nat)(l:LL):vR n l=(l.flatMap asgC).foldl setP (List.replicate n (-1)):=by
 unfold vR
 generalize List.replicate n (-1:Int)=g
 induction l generalizing g with
 |nil=>rfl
 |cons c l ih=>rw[List.foldl_cons,ih,givS_asg,List.flatMap_cons,List.foldl_append]
theorem set_not:∀(A:List (Nat×Int)) (g:List Int) (v:Nat),v∉A.map Prod.fst->(A.foldl setP g)[v]?=g[v]?
 |[],g,v,_=>rfl
 |p::A,g,v,h=>by
  simp only[List.map_cons,List.mem_cons,not_or]at h
  rw[List.foldl_cons,set_not A _ v h.2]
  unfold setP
  rw[List.getElem?_set,if_neg fun e=>h.1 e.symm]
theorem set_in:∀(A:List (Nat×Int)) (g:List Int),(A.map Prod.fst).Nodup->∀p∈A,p.1<g.length->(A.foldl setP g)[p.1]?=some p.2
 |[],g,_,p,hp,_=>by cases hp
 |q::A,g,hn,p,hp,hl=>by
  simp only[List.map_cons,List.nodup_cons]at hn
  rw[List.foldl_cons]
  rcases List.mem_cons.1 hp with rfl|hp
  .rw[set_not A _ _ hn.1]
   unfold setP
   rw[List.getElem?_set,if_pos rfl,if_pos hl]
  .exact set_in A _ hn.2 p hp (by unfold setP;rw[List.length_set];exact hl)
theorem set_from:∀(A:List (Nat×Int)) (g:List Int) (v:Nat) (x:Int),(A.foldl setP g)[v]?=some x->g[v]?=some x\/v∈A.map Prod.fst:=fun A g v x h=>by
 by_cases hv:v∈A.map Prod.fst
 .exact .inr hv
 .rw[set_not A g v hv]at h;exact .inl h
theorem asg_sub:∀(l:LL),((l.flatMap asgC).map Prod.fst).Sublist (l.flatten.map fun m=>(m/2).toNat)
 |[]=>.slnil
 |c::l=>by
  rw[List.flatMap_cons,List.map_append,List.flatten_cons,List.map_append]
  refine List.Sublist.append ?_ (asg_sub l)
  match c with
  |[]=>exact .slnil
  |h::ms=>
   rw[List.map_cons]
   refine List.Sublist.cons _ ?_
   show((ms.map fun m=>((m/2).toNat,gG h m)).map Prod.fst).Sublist _
   rw[List.map_map]
   exact List.Sublist.refl _
section
variable {I:Int} {Ls As:List (Int×Int)} {Bs Cs:List Int}
def ltO(I:Int)(Ls:LP)(k:Int):Int:=2*(I+1+k)+(Ls.getD k.toNat (0,0)).2
structure InvO(I:Int)(Ls:LP)(la:List Int)(l:LL):Prop where
 wf:wI I Ls l
 perm:l.flatten.Perm (fV I Ls Ls.length)
 first:∃ms r,l=(0::ms)::r/\∀k∈la,ltO I Ls k∈ms
theorem ini_nodup(hc:aP I Ls As Bs Cs=0):((fV I Ls Ls.length).map fun m=>(m/2).toNat).Nodup:=by
 obtain⟨k1,⟨k2,k3,k4,k5⟩,_,_,c3,_⟩:=aN hc
 obtain⟨h1,h2⟩:=yX k1 (fun x hx=>(c3 x hx).2) Ls.length (Nat.le_refl _)
 have hnn:∀m∈fV I Ls Ls.length,0<=m:=fun m hm=>by
  rcases h1 m hm with h|h
  .omega
  .have:=gw hc h.1;omega
 unfold List.Nodup
 rw[List.pairwise_map]
 refine h2.imp_of_mem fun {x y} hx hy hxy=>?_
 have:=hnn x hx;have:=hnn y hy
 omega
theorem InvO.nodup(hc:aP I Ls As Bs Cs=0){la:List Int}{l:LL}(h:InvO I Ls la l):(l.flatten.map fun m=>(m/2).toNat).Nodup:=
 ((h.perm.map _).nodup_iff).2 (ini_nodup hc)
theorem InvO.giv(hc:aP I Ls As Bs Cs=0){la:List Int}{l:LL}(h:InvO I Ls la l):
  (∀k∈la,rstL Ls k->(vR ((size I Ls As).toNat+1) l)[(I+1+k).toNat]?=some (Ls.getD k.toNat (0,0)).2) /\
  ∀(v:Nat) (x:Int),(vR ((size I Ls As).toNat+1) l)[v]?=some x->0<=x->I<(v:Int)/\(v:Int)<1+I+Ls.length:=by
 obtain⟨k1,⟨k2,k3,k4,k5⟩,_⟩:=aN hc
 have hnd:((l.flatMap asgC).map Prod.fst).Nodup:=(asg_sub l).nodup (h.nodup hc)
 obtain⟨ms,r,hl,hms⟩:=h.first
 refine⟨fun k hk hr=>?_,fun v x hx h0=>?_⟩
 .obtain⟨j,p,rfl,hp,hr⟩:=hr
  have hjl:=(List.getElem?_eq_some_iff.1 hp).1
  have hm:=hms _ hk
  have e2:(Ls.getD ((j:Int)).toNat (0,0)).2=p.2:=by rw[Int.toNat_natCast,List.getD_eq_getElem?_getD,hp];rfl
  unfold ltO at hm
  rw[e2]at hm ⊢
  rw[givL_asg]
  have hin:((((2*(I+1+(j:Int))+p.2)/2).toNat,gG 0 (2*(I+1+(j:Int))+p.2)):Nat×Int)∈l.flatMap asgC:=by
   rw[hl,List.flatMap_cons]
   refine List.mem_append_left _ ?_
   exact List.mem_map.2 ⟨_,hm,rfl⟩
  have h1:=set_in _ (List.replicate ((size I Ls As).toNat+1) (-1)) hnd _ hin (by rw[List.length_replicate];show((2*(I+1+(j:Int))+p.2)/2).toNat<_;unfold size;omega)
  have e3:((2*(I+1+(j:Int))+p.2)/2).toNat=(I+1+(j:Int)).toNat:=by omega
  have e4:gG 0 (2*(I+1+(j:Int))+p.2)=p.2:=by unfold gG cZ;(repeat' split)<;>omega
  simp only[e3,e4]at h1
  exact h1
 .rw[givL_asg]at hx
  rcases set_from _ _ _ _ hx with hx|hx
  .rw[List.getElem?_replicate]at hx
   split at hx
   .cases hx;omega
   .cases hx
  .obtain⟨q,hq,rfl⟩:=List.mem_map.1 hx
   obtain⟨c,hcl,hqc⟩:=List.mem_flatMap.1 hq
   have hw:=h.wf.1 c hcl
   match c,hw,hqc with
   |[],hw,_=>exact absurd rfl hw.ne
   |hd::ms',hw,hqc=>
    obtain⟨m,hm,rfl⟩:=List.mem_map.1 hqc
    obtain⟨_,_,hm2⟩:=oT hw hc
    have:=gw hc (hm2 m hm).1
    show I<((m/2).toNat:Int)/\((m/2).toNat:Int)<1+I+Ls.length
    omega
theorem InvO.const(h:cG I Ls As Bs Cs)(hc:aP I Ls As Bs Cs=0){la:List Int}{l:LL}(hJ:InvO I Ls la l)(hla:∀x∈la,rstL Ls x)
  (hst:∀k∈la,kB (bTq I Ls As (gvK I Ls ((size I Ls As).toNat+1) la la.length)) (Ls.getD k.toNat (0,0)).1=(Ls.getD k.toNat (0,0)).2) :
  ∀k∈la,kB (bTq I Ls As (vR ((size I Ls As).toNat+1) l)) (Ls.getD k.toNat (0,0)).1=(Ls.getD k.toNat (0,0)).2:=by
 obtain⟨k1,⟨k2,k3,k4,k5⟩,_,_,c3,_⟩:=aN hc
 intro k hk
 obtain⟨g1ok,g1in⟩:=gvK_ok hc hla
 have g2ok:=za hc hJ.wf.1
 obtain⟨a1,a2⟩:=hJ.giv hc
 obtain⟨_,hK1⟩:=lP h hc g1ok
 obtain⟨_,hK2⟩:=lP h hc g2ok
 have n1:(gvK I Ls ((size I Ls As).toNat+1) la la.length).length=(size I Ls As).toNat+1:=gvK_len ..
 have n2:(vR ((size I Ls As).toNat+1) l).length=(size I Ls As).toNat+1:=by have:=g2ok.1;have hs:0<=size I Ls As:=(by unfold size;omega);omega
 have s:=hst k hk
 unfold bTq pL at s ⊢
 rw[n1]at s hK1
 rw[n2]at hK2 ⊢
 have hsz:0<=size I Ls As:=by unfold size;omega
 have gd:∀(g:List Int) (v:Nat),g.length=(size I Ls As).toNat+1->v<(size I Ls As).toNat+1->g[v]?=some (g.getD v 0):=fun g v hg hv=>by
  rw[List.getElem?_eq_getElem (by omega),List.getD_eq_getElem?_getD,List.getElem?_eq_getElem (by omega)];rfl
 have hM:De ((size I Ls As).toNat+1) (dR I Ls) (gvK I Ls ((size I Ls As).toNat+1) la la.length) (vR ((size I Ls As).toNat+1) l):=by
  refine⟨fun v hv h0=>?_,fun v hv hgv=>?_,fun _=>⟨?_,?_⟩⟩
  .obtain⟨j,p,q1,q2,q3,q4⟩:=g1in v _ (gd _ v n1 hv) h0
   obtain⟨j',p',e,q5,q6⟩:=hla _ q1
   have:j'=j:=by omega
   subst this
   rw[q2]at q5;cases q5
   have ha:=a1 _ q1 (hla _ q1)
   rw[show(I+1+(j':Int)).toNat=v by omega,gd _ v n2 hv]at ha
   have e2:(Ls.getD ((j':Int)).toNat (0,0)).2=p.2:=by rw[Int.toNat_natCast,List.getD_eq_getElem?_getD,q2];rfl
   rw[e2]at ha
   have ha':=Option.some.inj ha
   exact⟨by omega,by rw[q4];exact q6,by rw[ha',q4]⟩
  .by_cases h':((vR ((size I Ls As).toNat+1) l).getD v 0)<0
   .exact h'
   .have:=(a2 v _ (gd _ v n2 hv) (by omega)).2
    unfold dR at hgv
    omega
  .by_cases h':((gvK I Ls ((size I Ls As).toNat+1) la la.length).getD 0 0)<0
   .exact h'
   .obtain⟨j,p,q1,q2,q3,q4⟩:=g1in 0 _ (gd _ 0 n1 (by omega)) (by omega)
    omega
  .by_cases h':((vR ((size I Ls As).toNat+1) l).getD 0 0)<0
   .exact h'
   .have:=(a2 0 _ (gd _ 0 n2 (by omega)) (by omega)).1
    omega
 obtain⟨j,p,rfl,hp,hr⟩:=hla k hk
 have e1:Ls.getD ((j:Int)).toNat (0,0)=p:=by rw[Int.toNat_natCast,List.getD_eq_getElem?_getD,hp];rfl
 rw[e1]at s ⊢
 have hx:=cz.1 (c3 p (List.mem_of_getElem? hp)).1
 rw[<-s]
 refine build_const hK1 hK2 hM hx.1 (by omega) ?_
 have s':kB (tW (dR I Ls) As (gvK I Ls ((size I Ls As).toNat+1) la la.length) ((size I Ls As).toNat+1)) p.1=p.2:=s
 rw[s']
 exact hr
theorem InvO.step(h:cG I Ls As Bs Cs)(hc:aP I Ls As Bs Cs=0){b:Int}(hb:0<=b/\b<=100000){la:List Int}{l:LL}(hJ:InvO I Ls la l)(hla:∀x∈la,rstL Ls x)
  (hst:∀k∈la,kB (bTq I Ls As (gvK I Ls ((size I Ls As).toNat+1) la la.length)) (Ls.getD k.toNat (0,0)).1=(Ls.getD k.toNat (0,0)).2)
  {x:gB} (hx:oO (bt E (DM E)) I Ls As Bs Cs (size I Ls As) l=some x) {S L:LL} (hr:pb (qF I x.2.1 (kH (bt E (DM E)) b x)) l=some (.inr (S,L))):InvO I Ls la (S++L):=by
 obtain⟨k1,⟨k2,k3,k4,k5⟩,_,_,c3,_⟩:=aN hc
 have hcon:=hJ.const h hc hla hst
 obtain⟨x',hx',hq⟩:=xJ h hc hb hJ.wf
 rw[hx]at hx'
 cases hx'
 have hform:=rnd_form l [] [] S L hr
 rw[List.nil_append,List.nil_append]at hform
 refine⟨?_,?_,?_⟩
 .rcases BK (P:=fun m h=>True) hJ.wf.1 (fun c hc m hm hd hhd=>by obtain⟨t,e,q1,_⟩:=hq c hc m hm hd hhd;exact⟨t,e,q1,fun _ _=>trivial⟩) with⟨e,_,h1⟩|⟨S',L',h1,h2,h3,_⟩
  .rw[hr]at h1;cases h1
  .rw[hr]at h1;cases h1
   exact⟨h2,by rw[vh];have:=hJ.wf.2;omega⟩
 .rw[hform.1,hform.2,List.flatten_append,flat_ne]
  exact(rnd_perm l).trans hJ.perm
 .obtain⟨ms,r,hl,hms⟩:=hJ.first
  refine⟨ms.filter (trQ (qF I x.2.1 (kH (bt E (DM E)) b x)) 0),r.map (stayC (qF I x.2.1 (kH (bt E (DM E)) b x)))++L,?_,fun k hk=>?_⟩
  .rw[hform.1,hl];rfl
  .refine List.mem_filter.2 ⟨hms k hk,?_⟩
   obtain⟨g,hg,hgo,hxe⟩:=G7 h hc hJ.wf
   have hxl:x=lB I Ls As Bs Cs l:=by
    rw[uK,oA h hc hJ.wf,Option.bind_some]at hx
    split at hx
    .exact(Option.some.inj hx).symm
    .cases hx
   obtain⟨j,p,rfl,hp,hr01⟩:=hla k hk
   have hjl:=(List.getElem?_eq_some_iff.1 hp).1
   have e1:Ls.getD ((j:Int)).toNat (0,0)=p:=by rw[Int.toNat_natCast,List.getD_eq_getElem?_getD,hp];rfl
   have hc':=hcon _ hk
   rw[e1,<-hg]at hc'
   have hn1:DA I x.2.1 (ltO I Ls (j:Int))=some 0:=by
    rw[hxl,hxe]
    unfold ltO DA
    rw[e1,if_neg (by omega),if_pos ⟨by omega,by omega⟩,show((2*(I+1+(j:Int))+p.2)/2-I-1).toNat=j by omega]
    show(match(mu I Ls As g)[j]? with|some g=>_|none=>_)=_
    rw[List.getElem?_map,hp]
    simp only[Option.map_some]
    rw[hc',if_pos ⟨by omega,by omega⟩]
    congr 1
    unfold gG cZ
    (repeat' split)<;>omega
   have hn0:DA I x.2.1 0=some 0:=by unfold DA;rw[if_pos rfl]
   unfold trQ
   rw[decide_eq_true_iff]
   unfold qF
   rw[hn1,hn0]
   simp only
   rw[j6,cr.eq]
   rfl
theorem fnd_inv{B:LL->Option gB}{E':gB->yi}{J:LL->Prop}(hs:∀l x S L,J l->B l=some x->pb (qF I x.2.1 (E' x)) l=some (.inr (S,L))->J (S++L)):∀(k:Nat) (l l':LL) (x:gB),mj B E' I k l=some (.inr (l',x))->J l->J l'
 |0,l,l',x,h,_=>by cases h
 |k+1,l,l',x,h,hj=>by
  simp only[mj]at h
  split at h
  case isFalse=>cases h
  split at h
  .cases h
  .rename_i y hy
   split at h
   .rename_i S L hr
    split at h
    .cases h;exact hj
    .exact fnd_inv hs k _ _ _ h (hs l y S L hj hy hr)
   .cases h
   .cases h
theorem iniF_key(I:Int)(Ls:LP):∀q,∃ms,fV I Ls q=0::ms/\∀(j:Nat) (p:Int×Int),j<q->Ls[j]?=some p->p.2≠2->2*(I+1+(j:Int))+p.2∈ms:=by
 intro q
 induction q with
 |zero=>exact⟨[],rfl,fun j p hj=>by omega⟩
 |succ q ih=>
  obtain⟨ms,e,hm⟩:=ih
  simp only[fV]
  split
  .rename_i g hg
   split
   .rename_i h2
    refine⟨ms,e,fun j p hj hp hp2=>?_⟩
    by_cases hjq:j=q
    .subst hjq;rw[hg]at hp;cases hp;exact absurd h2 hp2
    .exact hm j p (by omega) hp hp2
   .refine⟨ms++[2*(I+1+(q:Int))+g.2],by rw[e];rfl,fun j p hj hp hp2=>?_⟩
    by_cases hjq:j=q
    .subst hjq;rw[hg]at hp;cases hp;exact List.mem_append_right _ (List.mem_singleton.2 rfl)
    .exact List.mem_append_left _ (hm j p (by omega) hp hp2)
  .rename_i hg
   refine⟨ms,e,fun j p hj hp hp2=>?_⟩
   by_cases hjq:j=q
   .subst hjq;rw[hg]at hp;cases hp
   .exact hm j p (by omega) hp hp2
theorem ini_inv(hc:aP I Ls As Bs Cs=0){la:List Int}(hla:∀x∈la,rstL Ls x):InvO I Ls la [fV I Ls Ls.length]:=by
 refine⟨IP hc,by simp,?_⟩
 obtain⟨ms,e,hm⟩:=iniF_key I Ls Ls.length
 refine⟨ms,[],by rw[e],fun k hk=>?_⟩
 obtain⟨j,p,rfl,hp,hr⟩:=hla k hk
 have e1:Ls.getD ((j:Int)).toNat (0,0)=p:=by rw[Int.toNat_natCast,List.getD_eq_getElem?_getD,hp];rfl
 unfold ltO
 rw[e1]
 exact hm j p (List.getElem?_eq_some_iff.1 hp).1 hp (by omega)
theorem one_spec(h:cG I Ls As Bs Cs)(hc:aP I Ls As Bs Cs=0){b:Int}(hb:0<=b/\b<=100000){la:List Int}(hla:∀x∈la,rstL Ls x)
  (hst:∀k∈la,kB (bTq I Ls As (gvK I Ls ((size I Ls As).toNat+1) la la.length)) (Ls.getD k.toNat (0,0)).1=(Ls.getD k.toNat (0,0)).2) :
  (∃e,e≠0/\cJ I Ls As Bs Cs b=some ([],e))\/∃l,InvO I Ls la l/\cJ I Ls As Bs Cs b=some (l,0):=by
 obtain⟨k1,⟨k2,k3,k4,k5⟩,_⟩:=aN hc
 rw[cJ.eq,find_eq h hc hb]
 rcases vX (P:=fun x=>Sem x I) (fun l hw=>xJ h hc hb hw) (by omega) (Ls.length+2) [fV I Ls Ls.length] (IP hc) (by simp) with⟨e,he,h1⟩|⟨l,x,h1,h2,h3,h4⟩
 .rw[h1];exact .inl ⟨e,he,rfl⟩
 .rw[h1]
  exact .inr ⟨l,fnd_inv (J:=InvO I Ls la) (fun l x S L hj hx hr=>hj.step h hc hb hla hst hx hr) _ _ _ _ h1 (ini_inv hc hla),rfl⟩
end
end
section
def occ(I:Int)(S:List Int)(j:Nat):Prop:=I+1+(j:Int)∈S.map (· / 2)
theorem occ_mono{I:Int}{S T:List Int}{j:Nat}(h:occ I S j)(hs:S ⊆ T):occ I T j:=by
 obtain⟨m,hm,e⟩:=List.mem_map.1 h
 exact List.mem_map.2 ⟨m,hs hm,e⟩
theorem occ_snoc{I:Int}{S:List Int}{m:Int}{j:Nat}:occ I (S++[m]) j↔occ I S j\/m/2=I+1+(j:Int):=by
 unfold occ
 rw[List.map_append,List.mem_append,List.map_singleton,List.mem_singleton]
 exact or_congr Iff.rfl eq_comm
structure Seen(I:Int)(n:Nat)(S0 S o:List Int):Prop where
 len:o.length=n
 non:∀j,j<n->¬occ I S j->o[j]?=some 0
 som:∀j,j<n->occ I S j->∃v,o[j]?=some v/\0<v/\(occ I S0 j->v=1)
theorem Seen.ini{I:Int}{n:Nat}{S0:List Int}:Seen I n S0 [] (List.replicate n 0):=
 ⟨List.length_replicate,fun j hj _=>by rw[List.getElem?_replicate,if_pos hj],fun j hj h=>by simp[occ]at h⟩
theorem Seen.zero{I:Int}{n:Nat}{S0 S o:List Int}(hI:0<=I)(h:Seen I n S0 S o):Seen I n S0 (S++[0]) o:=by
 have e:∀j,occ I (S++[0]) j↔occ I S j:=fun j=>by
  rw[occ_snoc]
  exact⟨fun q=>q.elim id fun q=>by omega,.inl⟩
 exact⟨h.len,fun j hj hn=>h.non j hj fun q=>hn ((e j).2 q),fun j hj q=>h.som j hj ((e j).1 q)⟩
theorem Seen.put{I:Int}{n:Nat}{S0 S o:List Int}(h:Seen I n S0 S o){m x:Int}{j:Nat}(hj:j<n)(hm:m/2=I+1+(j:Int))(hx:0<x)(h1:occ I S0 j->x=1):Seen I n S0 (S++[m]) (o.set j x):=by
 refine⟨by rw[List.length_set];exact h.len,fun i hi hn=>?_,fun i hi q=>?_⟩
 .rw[occ_snoc,not_or]at hn
  rw[List.getElem?_set,if_neg (by intro e;subst e;exact hn.2 hm)]
  exact h.non i hi hn.1
 .by_cases e:j=i
  .subst e
   exact⟨x,by rw[List.getElem?_set,if_pos rfl,if_pos (by rw[h.len];exact hj)],hx,h1⟩
  .rw[List.getElem?_set,if_neg e]
   rcases occ_snoc.1 q with q|q
   .exact h.som i hi q
   .omega
section
variable {I:Int} {Ls As:List (Int×Int)} {Bs Cs:List Int}
def preS(l:LL)(i k:Nat)(c:List Int):List Int:=(l.take i).flatten++c.take k
theorem preS_succ{l:LL}{i k:Nat}{c:List Int}(hk:k<c.length):preS l i (k+1) c=preS l i k c++[c[k]]:=by
 unfold preS
 rw[List.take_succ_eq_append_getElem hk,List.append_assoc]
theorem preS_end{l:LL}{i:Nat}(hi:i<l.length):preS l i l[i].length l[i]=(l.take (i+1)).flatten:=by
 unfold preS
 rw[List.take_length,List.take_succ_eq_append_getElem hi,List.flatten_append,List.flatten_singleton]
theorem preS_all{l:LL}{i k:Nat}(hi:i<l.length)(hk:k<l[i].length):∃t,l.flatten=preS l i k l[i]++l[i][k]::t:=by
 refine⟨l[i].drop (k+1)++(l.drop (i+1)).flatten,?_⟩
 have e1:l=l.take i++l[i]::l.drop (i+1):=by rw[<-List.drop_eq_getElem_cons hi,List.take_append_drop]
 have e2:l[i]=l[i].take k++l[i][k]::l[i].drop (k+1):=by rw[<-List.drop_eq_getElem_cons hk,List.take_append_drop]
 unfold preS
 calc l.flatten=(l.take i++l[i]::l.drop (i+1)).flatten:=by rw[<-e1]
  _=(l.take i).flatten++(l[i]++(l.drop (i+1)).flatten):=by rw[List.flatten_append,List.flatten_cons]
  _=(l.take i).flatten++((l[i].take k++l[i][k]::l[i].drop (k+1))++(l.drop (i+1)).flatten):=by rw[<-e2]
  _=_:=by rw[List.append_assoc,List.append_assoc];rfl
theorem one_at(hc:aP I Ls As Bs Cs=0){la:List Int}{ms:List Int}{r:LL}(hJ:InvO I Ls la ((0::ms)::r)){i k:Nat}(hi:i<((0::ms)::r).length)(hk:k<(((0::ms)::r)[i]).length)(h0:¬(i=0/\k=0)):
  ∃(j:Nat) (p:Int×Int),Ls[j]?=some p/\(p.2=0\/p.2=1)/\((0::ms)::r)[i][k]=2*(I+1+(j:Int))+p.2/\¬occ I (preS ((0::ms)::r) i k (((0::ms)::r)[i])) j/\(occ I (0::ms) j->i=0):=by
 obtain⟨k1,_⟩:=aN hc
 obtain⟨t,ht⟩:=preS_all hi hk
 have hnd:=hJ.nodup hc
 rw[ht,List.map_append,List.map_cons,List.nodup_append]at hnd
 have hz:(0:Int)∈preS ((0::ms)::r) i k (((0::ms)::r)[i]):=by
  unfold preS
  cases i with
  |zero=>
   refine List.mem_append_right _ ?_
   cases k with
   |zero=>exact absurd ⟨rfl,rfl⟩ h0
   |succ k=>exact List.mem_cons_self ..
  |succ i=>
   refine List.mem_append_left _ ?_
   rw[List.take_succ_cons,List.flatten_cons]
   exact List.mem_append_left _ (List.mem_cons_self ..)
 have hne:∀m∈preS ((0::ms)::r) i k (((0::ms)::r)[i]),(m/2).toNat≠(((0::ms)::r)[i][k]/2).toNat:=fun m hm=>hnd.2.2 _ (List.mem_map.2 ⟨m,hm,rfl⟩) _ (List.mem_cons_self ..)
 have hmem:=(hJ.wf.1 _ (List.getElem_mem hi)).mem _ (List.getElem_mem hk)
 rcases hmem with e|⟨j,p,hp,h2,e⟩
 .exact absurd (by rw[e]) (hne 0 hz)
 .have hno:¬occ I (preS ((0::ms)::r) i k (((0::ms)::r)[i])) j:=fun q=>by
   obtain⟨m,hm,em⟩:=List.mem_map.1 q
   have em':m/2=I+1+(j:Int):=em
   exact hne m hm (by rw[e,em'];omega)
  refine⟨j,p,hp,h2,e,hno,fun q=>?_⟩
  cases i with
  |zero=>rfl
  |succ i=>
   refine absurd (occ_mono q fun m hm=>?_) hno
   unfold preS
   refine List.mem_append_left _ ?_
   rw[List.take_succ_cons,List.flatten_cons]
   exact List.mem_append_left _ hm
theorem one_all(hc:aP I Ls As Bs Cs=0){la:List Int}{l:LL}(hJ:InvO I Ls la l){j:Nat}{p:Int×Int}(hp:Ls[j]?=some p):occ I l.flatten j↔p.2≠2:=by
 obtain⟨k1,⟨k2,k3,k4,k5⟩,_,_,c3,_⟩:=aN hc
 have hj:=(List.getElem?_eq_some_iff.1 hp).1
 have hr:=(c3 p (List.mem_of_getElem? hp)).2
 refine⟨fun q=>?_,fun q=>?_⟩
 .obtain⟨m,hm,em⟩:=List.mem_map.1 q
  have em':m/2=I+1+(j:Int):=em
  rcases(yX k1 (fun x hx=>(c3 x hx).2) Ls.length (Nat.le_refl _)).1 m (hJ.perm.mem_iff.1 hm) with h|⟨⟨j',p',hp',h2,e⟩,_⟩
  .omega
  .have:j'=j:=by omega
   subst this
   rw[hp]at hp';cases hp'
   omega
 .obtain⟨ms,e,hm⟩:=iniF_key I Ls Ls.length
  have h1:=hm j p hj hp q
  exact List.mem_map.2 ⟨_,hJ.perm.mem_iff.2 (by rw[e];exact List.mem_cons_of_mem _ h1),by show(2*(I+1+(j:Int))+p.2)/2=_;omega⟩
theorem one_stay{la:List Int}{ms:List Int}{r:LL}(hJ:InvO I Ls la ((0::ms)::r))(hla:∀x∈la,rstL Ls x){x:Int}(hx:x∈la):∃(j:Nat) (p:Int×Int),x=(j:Int)/\Ls[j]?=some p/\occ I (0::ms) j:=by
 obtain⟨j,p,rfl,hp,hr⟩:=hla x hx
 refine⟨j,p,rfl,hp,?_⟩
 obtain⟨ms',r',e,hm⟩:=hJ.first
 cases e
 have e1:Ls.getD ((j:Int)).toNat (0,0)=p:=by rw[Int.toNat_natCast,List.getD_eq_getElem?_getD,hp];rfl
 have:=hm _ hx
 unfold ltO at this
 rw[e1]at this
 exact List.mem_map.2 ⟨_,List.mem_cons_of_mem _ this,by show(2*(I+1+(j:Int))+p.2)/2=_;omega⟩
theorem one.l1_zero{ok:Bool}{ms:List Int}{r:LL}{o:List Int}:spiritlevellaw31_LatchcorrOne.l1 ok ((0::ms)::r) ((0:Nat):Int) ((0:Nat):Int) I Ls As Bs Cs o=spiritlevellaw31_LatchcorrOne.l1 ok ((0::ms)::r) ((0:Nat):Int) ((0+1:Nat):Int) I Ls As Bs Cs o:=by
 have G1:aD ((0::ms)::r) ((0:Nat):Int)=some (0::ms):=rfl
 have K1:decide (((0:Nat):Int)<((0::ms).length:Int))=true:=decide_eq_true (by simp only[List.length_cons];omega)
 have K0:decide (((0:Nat):Int)>0)=false:=rfl
 have I0:(((0:Nat):Int)==0)=true:=rfl
 have W:IntKind.wrap .i64 (((0:Nat):Int)+1)=((0+1:Nat):Int):=by rw[wr]<;>omega
 rw[spiritlevellaw31_LatchcorrOne.l1_eq]
 simp only[G1,Option.bind_some,K1,K0,I0,W,cond_true,cond_false]
theorem one.l1_go{ok:Bool}{l:LL}{i k j:Nat}{c:List Int}{m:Int}{p:Int×Int}{o:List Int}(hi:l[i]?=some c)(hk:c[k]?=some m)(h0:¬(i=0/\k=0))(hinc:∀m',0<k->c[k-1]?=some m'->m'<m)(hp:Ls[j]?=some p)(hp2:p.2=0\/p.2=1)(hm:m=2*(I+1+(j:Int))+p.2)
  (hI:0<=I/\I<=1000) (hj:j<=1000) (ho:o[j]?=some 0) (hkb:k<=2000) (hib:i<=2000) :
  spiritlevellaw31_LatchcorrOne.l1 ok l (i:Int) (k:Int) I Ls As Bs Cs o=spiritlevellaw31_LatchcorrOne.l1 ok l (i:Int) ((k+1:Nat):Int) I Ls As Bs Cs (o.set j ((i+1:Nat):Int)):=by
 have hol:=(List.getElem?_eq_some_iff.1 ho).1
 have hkl:=(List.getElem?_eq_some_iff.1 hk).1
 have G1:aD l (i:Int)=some c:=by rw[gi];exact hi
 have G2:aD c (k:Int)=some m:=by rw[gi];exact hk
 have K1:decide ((k:Int)<(c.length:Int))=true:=decide_eq_true (by omega)
 have E1:IntKind.wrap .i64 (IntKind.wrap .i64 (IntKind.wrap .i64 (Int.tdiv m 2)-I)-1)=(j:Int):=by
  rw[iV (by omega) (by omega),show((((m/2).toNat:Nat):Int)-I)=(j:Int)+1 by omega,wr (x:=(j:Int)+1) (by omega) (by omega),show(j:Int)+1-1=(j:Int) by omega,wr (by omega) (by omega)]
 have B1:decide ((j:Int)<0)=false:=decide_eq_false (by omega)
 have B2:decide ((j:Int)>=(o.length:Int))=false:=decide_eq_false (by omega)
 have H1:aD o (j:Int)=some 0:=by rw[gi];exact ho
 have H2:o[((j:Int)).toNat]?=some 0:=by rw[Int.toNat_natCast];exact ho
 have B3:((0:Int) != 0)=false:=rfl
 have H3:aD Ls (j:Int)=some p:=by rw[gi];exact hp
 have B4:(p.2==2)=false:=beq_false_of_ne (by omega)
 have B5:(Int.tmod m 2 != p.2)=false:=by rw[tm (by omega),bne,show m%2=p.2 by omega,beq_self_eq_true];rfl
 have W1:IntKind.wrap .i64 ((i:Int)+1)=((i+1:Nat):Int):=by rw[wr]<;>omega
 have W2:IntKind.wrap .i64 ((k:Int)+1)=((k+1:Nat):Int):=by rw[wr]<;>omega
 have T:((j:Int)).toNat=j:=Int.toNat_natCast j
 rw[spiritlevellaw31_LatchcorrOne.l1_eq]
 by_cases hk0:k=0
 .subst hk0
  have K0:decide (((0:Nat):Int)>0)=false:=rfl
  have I0:((i:Int)==0)=false:=beq_false_of_ne (by omega)
  simp only[G1,Option.bind_some,K1,K0,I0,cond_true,cond_false,G2,E1,B1,B2,H1,H2,B3,H3,B4,B5,W1,W2]
  rw[T]
 .have K0:decide ((k:Int)>0)=true:=decide_eq_true (by omega)
  obtain⟨m',hm'⟩:∃m',c[k-1]?=some m':=⟨_,List.getElem?_eq_getElem (by omega)⟩
  have hlt:=hinc m' (by omega) hm'
  have G3:aD c (IntKind.wrap .i64 ((k:Int)-1))=some m':=by
   rw[wr (by omega) (by omega),show(k:Int)-1=((k-1:Nat):Int) by omega,gi];exact hm'
  have L0:decide (m<=m')=false:=decide_eq_false (by omega)
  have Kz:((k:Int)==0)=false:=beq_false_of_ne (by omega)
  by_cases hi0:i=0
  .have I0:((i:Int)==0)=true:=by rw[hi0];rfl
   simp only[G1,Option.bind_some,K1,K0,I0,Kz,cond_true,cond_false,G2,G3,L0,E1,B1,B2,H1,H2,B3,H3,B4,B5,W1,W2]
   rw[T]
  .have I0:((i:Int)==0)=false:=beq_false_of_ne (by omega)
   simp only[G1,Option.bind_some,K1,K0,I0,cond_true,cond_false,G2,G3,L0,E1,B1,B2,H1,H2,B3,H3,B4,B5,W1,W2]
   rw[T]
theorem one.sizes(hc:aP I Ls As Bs Cs=0){la:List Int}{l:LL}(hJ:InvO I Ls la l):l.length<=1001/\∀c∈l,c.length<=1001:=by
 obtain⟨k1,⟨k2,k3,k4,k5⟩,_⟩:=aN hc
 have h1:=l5 fun c hc'=>(hJ.wf.1 c hc').ne
 have h2:=hJ.wf.2
 exact⟨by omega,fun c hcl=>by have:=rW hcl;omega⟩
theorem one.loop1(hc:aP I Ls As Bs Cs=0){la:List Int}{ms:List Int}{r:LL}(hJ:InvO I Ls la ((0::ms)::r)){ok:Bool}{i:Nat}(hi:i<((0::ms)::r).length):∀(n k:Nat) (o:List Int),k+n=(((0::ms)::r)[i]).length->Seen I Ls.length (0::ms) (preS ((0::ms)::r) i k (((0::ms)::r)[i])) o ->
  ∃o',Seen I Ls.length (0::ms) ((((0::ms)::r).take (i+1)).flatten) o'/\spiritlevellaw31_LatchcorrOne.l1 ok ((0::ms)::r) (i:Int) (k:Int) I Ls As Bs Cs o=spiritlevellaw31_LatchcorrOne.l0 ok ((0::ms)::r) ((i+1:Nat):Int) I Ls As Bs Cs o'
 |0,k,o,hn,hs=>by
  have hz:=one.sizes hc hJ
  have W1:IntKind.wrap .i64 ((i:Int)+1)=((i+1:Nat):Int):=by rw[wr]<;>omega
  have e:k=(((0::ms)::r)[i]).length:=by omega
  refine⟨o,?_,?_⟩
  .rw[<-preS_end hi,<-e];exact hs
  .rw[spiritlevellaw31_LatchcorrOne.l1_eq,bu hi,Option.bind_some,cd,if_neg (by omega),W1]
 |n+1,k,o,hn,hs=>by
  obtain⟨k1,⟨k2,k3,k4,k5⟩,_⟩:=aN hc
  have hz:=one.sizes hc hJ
  have hzi:=hz.2 _ (List.getElem_mem hi)
  have hk:k<(((0::ms)::r)[i]).length:=by omega
  by_cases h0:i=0/\k=0
  .obtain⟨rfl,rfl⟩:=h0
   rw[one.l1_zero]
   refine one.loop1 hc hJ hi n (0+1) o (by omega) ?_
   rw[preS_succ hk]
   exact hs.zero k1
  .obtain⟨j,p,hp,hp2,hm,hno,hf⟩:=one_at hc hJ hi hk h0
   have hj:=(List.getElem?_eq_some_iff.1 hp).1
   rw[one.l1_go (c:=((0::ms)::r)[i]) (m:=((0::ms)::r)[i][k]) (List.getElem?_eq_getElem hi) (List.getElem?_eq_getElem hk) h0 (fun m' hk0 hm'=>?_) hp hp2 hm ⟨k1,by omega⟩ (by omega) (hs.non j hj hno) (by omega) (by omega)]
   .refine one.loop1 hc hJ hi n (k+1) _ (by omega) ?_
    rw[preS_succ hk]
    exact hs.put hj (by rw[hm];omega) (by omega) (fun q=>by rw[hf q];rfl)
   .obtain⟨q1,q2⟩:=List.getElem?_eq_some_iff.1 hm'
    have hup:=(hJ.wf.1 _ (List.getElem_mem hi)).up
    have:=List.pairwise_iff_getElem.1 hup (k-1) k q1 hk (by omega)
    rw[q2]at this
    omega
theorem one.loop0(hc:aP I Ls As Bs Cs=0){la:List Int}{ms:List Int}{r:LL}(hJ:InvO I Ls la ((0::ms)::r)){ok:Bool}:∀(n i:Nat) (o:List Int),i+n=((0::ms)::r).length->Seen I Ls.length (0::ms) ((((0::ms)::r).take i).flatten) o ->
  ∃o',Seen I Ls.length (0::ms) (((0::ms)::r).flatten) o'/\spiritlevellaw31_LatchcorrOne.l0 ok ((0::ms)::r) (i:Int) I Ls As Bs Cs o=(constants_Stay I Ls As Bs Cs).bind fun s=>bif s.2 != (0:Int) then some false else spiritlevellaw31_LatchcorrOne.l2 ok s.1 0 I Ls As Bs Cs o'
 |0,i,o,hn,hs=>by
  refine⟨o,?_,?_⟩
  .rw[List.take_of_length_le (by omega)]at hs;exact hs
  .rw[spiritlevellaw31_LatchcorrOne.l0_eq,cd,if_neg (by omega)]
 |n+1,i,o,hn,hs=>by
  have hi:i<((0::ms)::r).length:=by omega
  obtain⟨o1,h1,e1⟩:=one.loop1 (As:=As) (Bs:=Bs) (Cs:=Cs) hc hJ (ok:=ok) hi _ 0 o (by rw[Nat.zero_add]) (by unfold preS;rw[List.take_zero,List.append_nil];exact hs)
  obtain⟨o2,h2,e2⟩:=one.loop0 hc hJ (ok:=ok) n (i+1) o1 (by omega) h1
  refine⟨o2,h2,?_⟩
  rw[spiritlevellaw31_LatchcorrOne.l0_eq,cd,if_pos (by omega)]
  exact e1.trans e2
theorem one.loop3{ms o la:List Int}{S:List Int}{ok:Bool}(hs:Seen I Ls.length (0::ms) S o)(hS:0::ms ⊆ S)(hn:Ls.length<=1000)(hla:∀x∈la,∃(j:Nat) (p:Int×Int),x=(j:Int)/\Ls[j]?=some p/\occ I (0::ms) j)(hl:la.length<=1000):∀(n i:Nat),i+n=la.length ->
  spiritlevellaw31_LatchcorrOne.l3 ok la (i:Int) o=some ok
 |0,i,hi=>by rw[spiritlevellaw31_LatchcorrOne.l3_eq,cd,if_neg (by omega)]
 |n+1,i,hi=>by
  have hlt:i<la.length:=by omega
  have hw1:IntKind.wrap .i64 ((i:Int)+1)=((i+1:Nat):Int):=by rw[wr]<;>omega
  obtain⟨j,p,e,hp,hq⟩:=hla _ (List.getElem_mem hlt)
  have hj:=(List.getElem?_eq_some_iff.1 hp).1
  obtain⟨v,hv,_,h1⟩:=hs.som j hj (occ_mono hq hS)
  have hol:=hs.len
  rw[h1 hq]at hv
  rw[spiritlevellaw31_LatchcorrOne.l3_eq,cd,if_pos (by omega),bu hlt,Option.bind_some,Option.bind_some,Option.bind_some,e,cd,if_neg (by omega),cd,if_neg (by omega),gi,hv,Option.bind_some,Int.toNat_natCast,hv,Option.bind_some,cn,if_pos rfl,hw1]
  exact one.loop3 hs hS hn hla hl n (i+1) (by omega)
theorem one.loop2{ms o la:List Int}{S:List Int}{ok:Bool}(hs:Seen I Ls.length (0::ms) S o)(hn:Ls.length<=1000)(hS:∀(j:Nat) (p:Int×Int),Ls[j]?=some p->(occ I S j↔p.2≠2)):∀(n i:Nat),i+n=Ls.length ->
  spiritlevellaw31_LatchcorrOne.l2 ok la (i:Int) I Ls As Bs Cs o=spiritlevellaw31_LatchcorrOne.l3 ok la 0 o
 |0,i,hi=>by
  have:=hs.len
  rw[spiritlevellaw31_LatchcorrOne.l2_eq,cd,if_neg (by omega)]
 |n+1,i,hi=>by
  have hol:=hs.len
  have hlt:i<Ls.length:=by omega
  have hw1:IntKind.wrap .i64 ((i:Int)+1)=((i+1:Nat):Int):=by rw[wr]<;>omega
  have hS':=hS i _ (List.getElem?_eq_getElem hlt)
  obtain⟨v,hv,hd⟩:∃v,o[i]?=some v/\((decide (v>(0:Int)))==(Ls[i].2 != (2:Int)))=true:=by
   by_cases q:occ I S i
   .obtain⟨v,hv,h0,_⟩:=hs.som i hlt q
    refine⟨v,hv,?_⟩
    rw[decide_eq_true h0,bne,beq_false_of_ne (hS'.1 q)];rfl
   .refine⟨0,hs.non i hlt q,?_⟩
    have:Ls[i].2=2:=Classical.byContradiction fun h=>q (hS'.2 h)
    rw[this];rfl
  rw[spiritlevellaw31_LatchcorrOne.l2_eq,cd,if_pos (by omega),gi,hv,Option.bind_some,Int.toNat_natCast,hv,Option.bind_some,bu hlt,Option.bind_some,hd,show(!true)=false from rfl,cf,hw1]
  exact one.loop2 hs hn hS n (i+1) (by omega)
end
theorem LatchcorrOne_pure(c:Int×List (Int×Int)×List (Int×Int)×List Int×List Int)(b:Int)(hc:Cd TC c)(hk:Cd (.int .i64) b):spiritlevellaw31_LatchcorrOne c.1 c.2.1 c.2.2.1 c.2.2.2.1 c.2.2.2.2 b=some true:=by
 have h:=Qw hc
 obtain⟨I,Ls,As,Bs,Cs⟩:=c
 dsimp only at h ⊢
 obtain⟨g,hg,hg2⟩:=y8 h
 obtain⟨d,hd,hd2⟩:=A6 b
 rw[spiritlevellaw31_LatchcorrOne.eq,Dc,Option.bind_some,hg,Option.bind_some]
 cases g with
 |true=>rfl
 |false=>
 rw[cf,hd,Option.bind_some]
 cases d with
 |true=>rfl
 |false=>
 rw[cf,hU h,Option.bind_some,cn]
 by_cases hck:aP I Ls As Bs Cs=0
 .rw[if_pos hck,show(!true)=false from rfl,cf]
  obtain⟨k1,⟨k2,k3,k4,k5⟩,_⟩:=aN hck
  by_cases hb:0<=b/\b<=100000
  .obtain⟨la,hla,hr,hll,hst⟩:=con_spec h hck
   rcases one_spec h hck hb hr hst with⟨e,he,h1⟩|⟨l,hJ,h1⟩
   .rw[h1,Option.bind_some,cn,if_neg he];rfl
   .obtain⟨ms,r,rfl,hms⟩:=hJ.first
    rw[h1,Option.bind_some]
    dsimp only
    rw[cn,if_pos rfl,ce,if_neg (by simp only[List.length_cons];omega),show aD ((0::ms)::r) 0=some (0::ms) from rfl,Option.bind_some,ce,if_neg (by simp only[List.length_cons];omega),Option.bind_some,show aD (0::ms) 0=some (0:Int) from rfl,Option.bind_some,cn,if_pos rfl,kV (by omega) (by omega),Option.bind_some,if_pos rfl,Int.toNat_natCast]
    obtain⟨o,ho,e⟩:=one.loop0 (As:=As) (Bs:=Bs) (Cs:=Cs) hck hJ (ok:=true) _ 0 (List.replicate Ls.length 0) (Nat.zero_add _) Seen.ini
    refine e.trans ?_
    rw[hla,Option.bind_some]
    dsimp only
    rw[cn,if_pos rfl]
    refine(one.loop2 (As:=As) (Bs:=Bs) (Cs:=Cs) ho (by omega) (fun j p hp=>one_all hck hJ hp) Ls.length 0 (Nat.zero_add _)).trans ?_
    refine one.loop3 (Ls:=Ls) ho (by rw[List.flatten_cons];exact List.subset_append_left _ _) (by omega) (fun x hx=>one_stay hJ hr hx) (by omega) la.length 0 (Nat.zero_add _)
  .rw[cJ.eq,Qz h hck (by omega)]
   rfl
 .rw[if_neg hck]
end
end Go.Proofs.YtfjpfjnepdhnaaaGreat

