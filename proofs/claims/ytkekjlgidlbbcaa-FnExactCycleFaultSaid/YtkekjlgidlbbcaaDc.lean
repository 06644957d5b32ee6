/- The conditions under which some functions do what they should, as plain propositions; no condition. -/
import Derived.Test.YtkekjlgidlbbcaaQb
namespace Go.Proofs.Ytkekjlgidlbbcaa

def wp_laws_FnExactTrivialRack (a0 : Int) (Q : Bool → Prop) : Prop :=
 (small2 (TrivT a0) ∧ small2 (TrivT a0)) ∧
 ((¬ ((TrivT a0) = (TrivT a0)) →
  Q false) ∧
 ((TrivT a0) = (TrivT a0) →
  ((¬ (TrivE a0 = TrivE a0) →
   Q false) ∧
  (TrivE a0 = TrivE a0 →
   (small2 (TrivT a0) ∧ okKT (1 : Int) (TrivT a0)) ∧
   (small2 (mkII (1 : Int) (TrivT a0)) ∧ okKT (1 : Int) (mkII (1 : Int) (TrivT a0))) ∧
   ((heII (1 : Int) (mkII (1 : Int) (TrivT a0)) < 0 →
    Q false) ∧
   (¬ (heII (1 : Int) (mkII (1 : Int) (TrivT a0)) < 0) →
    ((¬ (heII (1 : Int) (mkII (1 : Int) (TrivT a0)) = (1 : Int) + tot (TrivT a0)) →
     Q false) ∧
    (heII (1 : Int) (mkII (1 : Int) (TrivT a0)) = (1 : Int) + tot (TrivT a0) →
     (small2 (TrivT a0) ∧ small2 (TrivT a0)) ∧
     ((¬ ((TrivT a0) = (TrivT a0)) →
      Q false) ∧
     ((TrivT a0) = (TrivT a0) →
      ((¬ (TrivE a0 = TrivE a0) →
       Q false) ∧
      (TrivE a0 = TrivE a0 →
       (small2 (mkII (1 : Int) (TrivT a0)) ∧ okKT (1 : Int) (mkII (1 : Int) (TrivT a0))) ∧
       ((heII (1 : Int) (mkII (1 : Int) (TrivT a0)) < 0 →
        Q false) ∧
       (¬ (heII (1 : Int) (mkII (1 : Int) (TrivT a0)) < 0) →
        ((¬ (heII (1 : Int) (mkII (1 : Int) (TrivT a0)) = (1 : Int) + tot (TrivT a0)) →
         Q false) ∧
        (heII (1 : Int) (mkII (1 : Int) (TrivT a0)) = (1 : Int) + tot (TrivT a0) →
         Q true))))))))))))))))

def wp_laws_FnExactDihedralQuandle (a0 : Int) (Q : Bool → Prop) : Prop :=
 (small2 (DiheT a0) ∧ small2 (DiheT a0)) ∧
 ((¬ ((DiheT a0) = (DiheT a0)) →
  Q false) ∧
 ((DiheT a0) = (DiheT a0) →
  ((¬ (TrivE a0 = TrivE a0) →
   Q false) ∧
  (TrivE a0 = TrivE a0 →
   (small2 (DiheT a0) ∧ okKT (1 : Int) (DiheT a0)) ∧
   (small2 (mkII (1 : Int) (DiheT a0)) ∧ okKT (1 : Int) (mkII (1 : Int) (DiheT a0))) ∧
   ((heII (1 : Int) (mkII (1 : Int) (DiheT a0)) < 0 →
    Q false) ∧
   (¬ (heII (1 : Int) (mkII (1 : Int) (DiheT a0)) < 0) →
    ((¬ (heII (1 : Int) (mkII (1 : Int) (DiheT a0)) = (1 : Int) + tot (DiheT a0)) →
     Q false) ∧
    (heII (1 : Int) (mkII (1 : Int) (DiheT a0)) = (1 : Int) + tot (DiheT a0) →
     (small2 (DiheT a0) ∧ small2 (DiheT a0)) ∧
     ((¬ ((DiheT a0) = (DiheT a0)) →
      Q false) ∧
     ((DiheT a0) = (DiheT a0) →
      ((¬ (TrivE a0 = TrivE a0) →
       Q false) ∧
      (TrivE a0 = TrivE a0 →
       (small2 (mkII (1 : Int) (DiheT a0)) ∧ okKT (1 : Int) (mkII (1 : Int) (DiheT a0))) ∧
       ((heII (1 : Int) (mkII (1 : Int) (DiheT a0)) < 0 →
        Q false) ∧
       (¬ (heII (1 : Int) (mkII (1 : Int) (DiheT a0)) < 0) →
        ((¬ (heII (1 : Int) (mkII (1 : Int) (DiheT a0)) = (1 : Int) + tot (DiheT a0)) →
         Q false) ∧
        (heII (1 : Int) (mkII (1 : Int) (DiheT a0)) = (1 : Int) + tot (DiheT a0) →
         Q true))))))))))))))))

def wp_laws_FnExactAlexanderQuandle (a0 : Int) (a1 : Int) (Q : Bool → Prop) : Prop :=
 (InI a0) ∧
 (InI a0) ∧
 (small2 (AlexT a0 a1) ∧ small2 (AlexT a0 a1)) ∧
 ((¬ ((AlexT a0 a1) = (AlexT a0 a1)) →
  Q false) ∧
 ((AlexT a0 a1) = (AlexT a0 a1) →
  ((¬ (AlexE a0 a1 = AlexE a0 a1) →
   Q false) ∧
  (AlexE a0 a1 = AlexE a0 a1 →
   (small2 (AlexT a0 a1) ∧ okKT (1 : Int) (AlexT a0 a1)) ∧
   (small2 (mkII (1 : Int) (AlexT a0 a1)) ∧ okKT (1 : Int) (mkII (1 : Int) (AlexT a0 a1))) ∧
   ((heII (1 : Int) (mkII (1 : Int) (AlexT a0 a1)) < 0 →
    Q false) ∧
   (¬ (heII (1 : Int) (mkII (1 : Int) (AlexT a0 a1)) < 0) →
    ((¬ (heII (1 : Int) (mkII (1 : Int) (AlexT a0 a1)) = (1 : Int) + tot (AlexT a0 a1)) →
     Q false) ∧
    (heII (1 : Int) (mkII (1 : Int) (AlexT a0 a1)) = (1 : Int) + tot (AlexT a0 a1) →
     (InI a0) ∧
     (small2 (AlexT a0 a1) ∧ small2 (AlexT a0 a1)) ∧
     ((¬ ((AlexT a0 a1) = (AlexT a0 a1)) →
      Q false) ∧
     ((AlexT a0 a1) = (AlexT a0 a1) →
      ((¬ (AlexE a0 a1 = AlexE a0 a1) →
       Q false) ∧
      (AlexE a0 a1 = AlexE a0 a1 →
       (small2 (mkII (1 : Int) (AlexT a0 a1)) ∧ okKT (1 : Int) (mkII (1 : Int) (AlexT a0 a1))) ∧
       ((heII (1 : Int) (mkII (1 : Int) (AlexT a0 a1)) < 0 →
        Q false) ∧
       (¬ (heII (1 : Int) (mkII (1 : Int) (AlexT a0 a1)) < 0) →
        ((¬ (heII (1 : Int) (mkII (1 : Int) (AlexT a0 a1)) = (1 : Int) + tot (AlexT a0 a1)) →
         Q false) ∧
        (heII (1 : Int) (mkII (1 : Int) (AlexT a0 a1)) = (1 : Int) + tot (AlexT a0 a1) →
         Q true))))))))))))))))

def wp_laws_FnExactPermutationRack (a0 : List Int) (Q : Bool → Prop) : Prop :=
 ((1048576 < (a0.length : Int) →
  Q true) ∧
 (¬ (1048576 < (a0.length : Int)) →
  (small a0) ∧
  (small a0) ∧
  (small a0) ∧
  (small a0) ∧
  (small2 (PermT a0) ∧ small2 (PermT a0)) ∧
  ((¬ ((PermT a0) = (PermT a0)) →
   Q false) ∧
  ((PermT a0) = (PermT a0) →
   ((¬ (PermE a0 = PermE a0) →
    Q false) ∧
   (PermE a0 = PermE a0 →
    (small a0) ∧
    (small a0 ∧ small a0) ∧
    ((¬ (a0 = a0) →
     Q false) ∧
    (a0 = a0 →
     (small a0 ∧ okK (1 : Int)) ∧
     (((1 : Int) + (a0.length : Int) < 0 →
      Q false) ∧
     (¬ ((1 : Int) + (a0.length : Int) < 0) →
      (small2 (PermT a0) ∧ small2 (PermT a0)) ∧
      ((¬ ((PermT a0) = (PermT a0)) →
       Q false) ∧
      ((PermT a0) = (PermT a0) →
       ((¬ (PermE a0 = PermE a0) →
        Q false) ∧
       (PermE a0 = PermE a0 →
        (small2 (PermT a0) ∧ okKT (1 : Int) (PermT a0)) ∧
        (small2 (mkII (1 : Int) (PermT a0)) ∧ okKT (1 : Int) (mkII (1 : Int) (PermT a0))) ∧
        ((heII (1 : Int) (mkII (1 : Int) (PermT a0)) < 0 →
         Q false) ∧
        (¬ (heII (1 : Int) (mkII (1 : Int) (PermT a0)) < 0) →
         ((¬ (heII (1 : Int) (mkII (1 : Int) (PermT a0)) = (1 : Int) + tot (PermT a0)) →
          Q false) ∧
         (heII (1 : Int) (mkII (1 : Int) (PermT a0)) = (1 : Int) + tot (PermT a0) →
          (small a0) ∧
          (small a0) ∧
          (small2 (PermT a0) ∧ small2 (PermT a0)) ∧
          ((¬ ((PermT a0) = (PermT a0)) →
           Q false) ∧
          ((PermT a0) = (PermT a0) →
           ((¬ (PermE a0 = PermE a0) →
            Q false) ∧
           (PermE a0 = PermE a0 →
            (small2 (mkII (1 : Int) (PermT a0)) ∧ okKT (1 : Int) (mkII (1 : Int) (PermT a0))) ∧
            ((heII (1 : Int) (mkII (1 : Int) (PermT a0)) < 0 →
             Q false) ∧
            (¬ (heII (1 : Int) (mkII (1 : Int) (PermT a0)) < 0) →
             ((¬ (heII (1 : Int) (mkII (1 : Int) (PermT a0)) = (1 : Int) + tot (PermT a0)) →
              Q false) ∧
             (heII (1 : Int) (mkII (1 : Int) (PermT a0)) = (1 : Int) + tot (PermT a0) →
              Q true))))))))))))))))))))))))))

def wp_laws_FnExactSquaresOf (a0 : List (List Int)) (Q : Bool → Prop) : Prop :=
 (InS (1048576 : Int) ∧ huge2 a0) ∧
 ((szII a0 (1048576 : Int) < 0 →
  Q true) ∧
 (¬ (szII a0 (1048576 : Int) < 0) →
  (small2 a0) ∧
  (small2 a0) ∧
  (small2 a0) ∧
  (small2 a0) ∧
  (small (SquaT a0) ∧ small (SquaT a0)) ∧
  ((¬ ((SquaT a0) = (SquaT a0)) →
   Q false) ∧
  ((SquaT a0) = (SquaT a0) →
   ((¬ (SquaE a0 = SquaE a0) →
    Q false) ∧
   (SquaE a0 = SquaE a0 →
    (small2 a0) ∧
    (small2 a0 ∧ small2 a0) ∧
    ((¬ (a0 = a0) →
     Q false) ∧
    (a0 = a0 →
     (small2 a0 ∧ okKT (1 : Int) a0) ∧
     (((1 : Int) + tot a0 < 0 →
      Q false) ∧
     (¬ ((1 : Int) + tot a0 < 0) →
      (small (SquaT a0) ∧ small (SquaT a0)) ∧
      ((¬ ((SquaT a0) = (SquaT a0)) →
       Q false) ∧
      ((SquaT a0) = (SquaT a0) →
       ((¬ (SquaE a0 = SquaE a0) →
        Q false) ∧
       (SquaE a0 = SquaE a0 →
        (small (SquaT a0) ∧ okK (1 : Int)) ∧
        (small (mkI (1 : Int) (SquaT a0)) ∧ okK (1 : Int)) ∧
        ((heI (1 : Int) (mkI (1 : Int) (SquaT a0)) < 0 →
         Q false) ∧
        (¬ (heI (1 : Int) (mkI (1 : Int) (SquaT a0)) < 0) →
         ((¬ (heI (1 : Int) (mkI (1 : Int) (SquaT a0)) = (1 : Int) + ((SquaT a0).length : Int)) →
          Q false) ∧
         (heI (1 : Int) (mkI (1 : Int) (SquaT a0)) = (1 : Int) + ((SquaT a0).length : Int) →
          (small2 a0) ∧
          (small2 a0) ∧
          (small (SquaT a0) ∧ small (SquaT a0)) ∧
          ((¬ ((SquaT a0) = (SquaT a0)) →
           Q false) ∧
          ((SquaT a0) = (SquaT a0) →
           ((¬ (SquaE a0 = SquaE a0) →
            Q false) ∧
           (SquaE a0 = SquaE a0 →
            (small (mkI (1 : Int) (SquaT a0)) ∧ okK (1 : Int)) ∧
            ((heI (1 : Int) (mkI (1 : Int) (SquaT a0)) < 0 →
             Q false) ∧
            (¬ (heI (1 : Int) (mkI (1 : Int) (SquaT a0)) < 0) →
             ((¬ (heI (1 : Int) (mkI (1 : Int) (SquaT a0)) = (1 : Int) + ((SquaT a0).length : Int)) →
              Q false) ∧
             (heI (1 : Int) (mkI (1 : Int) (SquaT a0)) = (1 : Int) + ((SquaT a0).length : Int) →
              Q true))))))))))))))))))))))))))

def wp_laws_FnExactCycleFault (a0 : List (List Int)) (Q : Bool → Prop) : Prop :=
 (InS (1048576 : Int) ∧ huge2 a0) ∧
 ((szII a0 (1048576 : Int) < 0 →
  Q true) ∧
 (¬ (szII a0 (1048576 : Int) < 0) →
  (small2 a0) ∧
  (small2 a0) ∧
  (small2 a0) ∧
  (small2 a0) ∧
  (small (CycfT a0) ∧ small (CycfT a0)) ∧
  ((¬ ((CycfT a0) = (CycfT a0)) →
   Q false) ∧
  ((CycfT a0) = (CycfT a0) →
   ((¬ (CycfE a0 = CycfE a0) →
    Q false) ∧
   (CycfE a0 = CycfE a0 →
    (small2 a0) ∧
    (small2 a0 ∧ small2 a0) ∧
    ((¬ (a0 = a0) →
     Q false) ∧
    (a0 = a0 →
     (small2 a0 ∧ okKT (1 : Int) a0) ∧
     (((1 : Int) + tot a0 < 0 →
      Q false) ∧
     (¬ ((1 : Int) + tot a0 < 0) →
      (small (CycfT a0) ∧ small (CycfT a0)) ∧
      ((¬ ((CycfT a0) = (CycfT a0)) →
       Q false) ∧
      ((CycfT a0) = (CycfT a0) →
       ((¬ (CycfE a0 = CycfE a0) →
        Q false) ∧
       (CycfE a0 = CycfE a0 →
        (small (CycfT a0) ∧ okK (1 : Int)) ∧
        (small (mkI (1 : Int) (CycfT a0)) ∧ okK (1 : Int)) ∧
        ((heI (1 : Int) (mkI (1 : Int) (CycfT a0)) < 0 →
         Q false) ∧
        (¬ (heI (1 : Int) (mkI (1 : Int) (CycfT a0)) < 0) →
         ((¬ (heI (1 : Int) (mkI (1 : Int) (CycfT a0)) = (1 : Int) + ((CycfT a0).length : Int)) →
          Q false) ∧
         (heI (1 : Int) (mkI (1 : Int) (CycfT a0)) = (1 : Int) + ((CycfT a0).length : Int) →
          (small2 a0) ∧
          (small2 a0) ∧
          (small (CycfT a0) ∧ small (CycfT a0)) ∧
          ((¬ ((CycfT a0) = (CycfT a0)) →
           Q false) ∧
          ((CycfT a0) = (CycfT a0) →
           ((¬ (CycfE a0 = CycfE a0) →
            Q false) ∧
           (CycfE a0 = CycfE a0 →
            (small (mkI (1 : Int) (CycfT a0)) ∧ okK (1 : Int)) ∧
            ((heI (1 : Int) (mkI (1 : Int) (CycfT a0)) < 0 →
             Q false) ∧
            (¬ (heI (1 : Int) (mkI (1 : Int) (CycfT a0)) < 0) →
             ((¬ (heI (1 : Int) (mkI (1 : Int) (CycfT a0)) = (1 : Int) + ((CycfT a0).length : Int)) →
              Q false) ∧
             (heI (1 : Int) (mkI (1 : Int) (CycfT a0)) = (1 : Int) + ((CycfT a0).length : Int) →
              Q true))))))))))))))))))))))))))

end Go.Proofs.Ytkekjlgidlbbcaa
